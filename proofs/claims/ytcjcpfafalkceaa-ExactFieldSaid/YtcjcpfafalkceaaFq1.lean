/- Part 1 of the texts behind this claim. -/
import Derived.Test.YtcjcpfafalkceaaProg
import Derived.Below
import Derived.WalkKit
import Derived.WalkSpells
import Derived.OwnWalk
import Derived.Deep.Draws
import Derived.Deep.LoopGhost
import Derived.Deep.RegionHeld3
import Derived.Deep.DeepCutAuto
import Derived.Deep.QuietTactic
import Derived.BigQuiet
import Derived.IntWalk
import Derived.StillTailTactics
import Derived.Laws.MakeOwn
import Derived.Laws.Entries
import Derived.Laws.BitsAllLaws
import Derived.Laws.BitsLemmas
import Derived.KernelRfl
import Derived.Outline
set_option linter.unusedVariables false
namespace Go.Proofs.Ytcjcpfafalkceaa
def B : Nat := 4294967296
theorem B_pos : 0 < B := by decide
def val : List Nat → Nat
  | [] => 0
  | x :: xs => x + B * val xs
def Dg (xs : List Nat) : Prop := ∀ x ∈ xs, x < B
def dig (n : Nat) : List Nat := if h : n = 0 then [] else n % B :: dig (n / B)
termination_by n
decreasing_by exact Nat.div_lt_self (Nat.pos_of_ne_zero h) (by decide)
theorem dig_zero : dig 0 = [] := by rw [dig]; simp
theorem dig_pos {n : Nat} (h : n ≠ 0) : dig n = n % B :: dig (n / B) := by rw [dig]; simp [h]
theorem val_dig (n : Nat) : val (dig n) = n := by
  induction n using Nat.strongRecOn with
  | _ n ih =>
    by_cases h : n = 0
    · subst h; rw [dig_zero]; rfl
    · rw [dig_pos h, val, ih _ (Nat.div_lt_self (Nat.pos_of_ne_zero h) (by decide))]
      exact Nat.mod_add_div n B
theorem dg_dig (n : Nat) : Dg (dig n) := by
  induction n using Nat.strongRecOn with
  | _ n ih =>
    by_cases h : n = 0
    · subst h; rw [dig_zero]; intro x hx; cases hx
    · rw [dig_pos h]
      intro x hx
      rcases List.mem_cons.1 hx with rfl | hx
      · exact Nat.mod_lt _ B_pos
      · exact ih _ (Nat.div_lt_self (Nat.pos_of_ne_zero h) (by decide)) x hx
theorem val_append (xs ys : List Nat) : val (xs ++ ys) = val xs + B ^ xs.length * val ys := by
  induction xs with
  | nil => simp [val]
  | cons x xs ih => rw [List.cons_append, val, val, ih, List.length_cons, Nat.pow_succ, Nat.mul_add, Nat.mul_comm (B ^ xs.length) B, Nat.mul_assoc]; omega
theorem dg_append {xs ys : List Nat} (h : Dg xs) (k : Dg ys) : Dg (xs ++ ys) := fun x hx => (List.mem_append.1 hx).elim (h x) (k x)
theorem dg_take {xs : List Nat} (h : Dg xs) (k : Nat) : Dg (xs.take k) := fun x hx => h x (List.mem_of_mem_take hx)
theorem dg_drop {xs : List Nat} (h : Dg xs) (k : Nat) : Dg (xs.drop k) := fun x hx => h x (List.mem_of_mem_drop hx)
theorem dg_get {xs : List Nat} (h : Dg xs) (i : Nat) : xs.getD i 0 < B := by
  rw [List.getD_eq_getElem?_getD]
  by_cases hi : i < xs.length
  · rw [List.getElem?_eq_getElem hi]; exact h _ (List.getElem_mem hi)
  · rw [List.getElem?_eq_none (by omega)]; exact B_pos
theorem val_lt {xs : List Nat} (h : Dg xs) : val xs < B ^ xs.length := by
  induction xs with
  | nil => simp [val]
  | cons x xs ih =>
    have h1 := h x (List.mem_cons_self)
    have h2 := ih (fun y hy => h y (List.mem_cons_of_mem _ hy))
    rw [val, List.length_cons, Nat.pow_succ]
    have : B * (val xs + 1) ≤ B * B ^ xs.length := Nat.mul_le_mul_left _ h2
    rw [Nat.mul_comm (B ^ xs.length)]
    rw [Nat.mul_add] at this
    omega
theorem val_single (x : Nat) : val [x] = x := by simp [val]
theorem dig_val {xs : List Nat} (h : Dg xs) (hl : ∀ k, k + 1 = xs.length → xs.getD k 0 ≠ 0) : dig (val xs) = xs := by
  induction xs with
  | nil => exact dig_zero
  | cons x xs ih =>
    have hx := h x (List.mem_cons_self)
    have hd : Dg xs := fun y hy => h y (List.mem_cons_of_mem _ hy)
    have hv : val (x :: xs) ≠ 0 := by
      rcases xs with _ | ⟨y, ys⟩
      · have := hl 0 rfl
        simpa [val] using this
      · have hy := ih hd (fun k hk => by have := hl (k + 1) (by simp at hk ⊢; omega); simpa using this)
        intro h0
        have h1 : val (y :: ys) = 0 := by
          rw [val] at h0
          rcases Nat.eq_zero_or_pos (val (y :: ys)) with h | h
          · exact h
          · have := Nat.mul_pos B_pos h
            omega
        rw [h1, dig_zero] at hy
        cases hy
    rw [dig_pos hv]
    have h1 : val (x :: xs) % B = x := by rw [val, Nat.add_mul_mod_self_left]; exact Nat.mod_eq_of_lt hx
    have h2 : val (x :: xs) / B = val xs := by rw [val, Nat.add_mul_div_left _ _ B_pos, Nat.div_eq_of_lt hx, Nat.zero_add]
    rw [h1, h2]
    rcases xs with _ | ⟨y, ys⟩
    · simp [val, dig_zero]
    · rw [ih hd (fun k hk => by have := hl (k + 1) (by simp at hk ⊢; omega); simpa using this)]
theorem dig_last (n : Nat) : ∀ k, k + 1 = (dig n).length → (dig n).getD k 0 ≠ 0 := by
  induction n using Nat.strongRecOn with
  | _ n ih =>
    intro k hk
    by_cases h : n = 0
    · subst h; rw [dig_zero] at hk; cases hk
    · rw [dig_pos h] at hk ⊢
      have hlt := Nat.div_lt_self (Nat.pos_of_ne_zero h) (show 1 < B by decide)
      rcases k with _ | k
      · have h0 : n / B = 0 := by
          by_cases h0 : n / B = 0
          · exact h0
          · rw [dig_pos h0] at hk; simp at hk
        have : n % B = n := Nat.mod_eq_of_lt ((Nat.div_eq_zero_iff.1 h0).elim (fun h => absurd h (by decide)) id)
        simpa [this] using h
      · have := ih _ hlt k (by simpa using hk)
        simpa using this
def ln (n : Nat) : Nat := (dig n).length
theorem ln_zero : ln 0 = 0 := by simp [ln, dig_zero]
theorem lt_pow_ln (n : Nat) : n < B ^ ln n := by have := val_lt (dg_dig n); rwa [val_dig] at this
theorem ln_le {n k : Nat} (h : n < B ^ k) : ln n ≤ k := by
  induction k generalizing n with
  | zero =>
    have : n = 0 := by simp at h; omega
    subst this; rw [ln_zero]; exact Nat.le_refl _
  | succ k ih =>
    by_cases h0 : n = 0
    · subst h0; rw [ln_zero]; omega
    · have := ih (n := n / B) (by rw [Nat.div_lt_iff_lt_mul B_pos, ← Nat.pow_succ]; exact h)
      unfold ln at this ⊢
      rw [dig_pos h0]
      simp; omega
theorem ln_mono {m n : Nat} (h : m ≤ n) : ln m ≤ ln n := ln_le (Nat.lt_of_le_of_lt h (lt_pow_ln n))
theorem ln_eq_zero {n : Nat} : ln n = 0 ↔ n = 0 := ⟨fun h => by have := lt_pow_ln n; rw [h] at this; simp at this; omega, fun h => by rw [h, ln_zero]⟩
theorem pow_le_of_ln {n k : Nat} (h : k < ln n) : B ^ k ≤ n := by
  rcases Nat.lt_or_ge n (B ^ k) with h1 | h1
  · have := ln_le h1; omega
  · exact h1
theorem ln_add (m n : Nat) : ln (m + n) ≤ max (ln m) (ln n) + 1 := by
  apply ln_le
  have h1 := lt_pow_ln m
  have h2 := lt_pow_ln n
  have h3 : B ^ ln m ≤ B ^ max (ln m) (ln n) := Nat.pow_le_pow_right B_pos (Nat.le_max_left _ _)
  have h4 : B ^ ln n ≤ B ^ max (ln m) (ln n) := Nat.pow_le_pow_right B_pos (Nat.le_max_right _ _)
  rw [Nat.pow_succ]
  have h5 : B ^ max (ln m) (ln n) * 2 ≤ B ^ max (ln m) (ln n) * B := Nat.mul_le_mul_left _ (by decide)
  omega
theorem ln_mul (m n : Nat) : ln (m * n) ≤ ln m + ln n := by
  apply ln_le
  rw [Nat.pow_add]
  exact Nat.mul_lt_mul'' (lt_pow_ln m) (lt_pow_ln n)
theorem val_take_succ {xs : List Nat} {k : Nat} (hk : k < xs.length) : val (xs.take (k + 1)) = val (xs.take k) + B ^ k * xs.getD k 0 := by
  rw [List.take_succ_eq_append_getElem hk, val_append, val_single, List.length_take, Nat.min_eq_left (by omega)]
  simp [hk]
theorem dig_take {xs : List Nat} (h : Dg xs) {k : Nat} (hk : k ≤ xs.length) (hv : val (xs.take k) = val xs) (hl : ∀ j, j + 1 = k → xs.getD j 0 ≠ 0) : dig (val xs) = xs.take k := by
  rw [← hv]
  refine dig_val (dg_take h k) fun j hj => ?_
  rw [List.length_take, Nat.min_eq_left hk] at hj
  have := hl j hj
  rwa [List.getD_eq_getElem?_getD, List.getElem?_take, if_pos (by omega), ← List.getD_eq_getElem?_getD]
theorem val_take_mod {xs : List Nat} (h : Dg xs) (k : Nat) : val (xs.take k) = val xs % B ^ k := by
  by_cases hk : k ≤ xs.length
  · have := val_append (xs.take k) (xs.drop k)
    rw [List.take_append_drop, List.length_take, Nat.min_eq_left hk] at this
    rw [this, Nat.add_mul_mod_self_left, Nat.mod_eq_of_lt]
    have := val_lt (dg_take h k)
    rwa [List.length_take, Nat.min_eq_left hk] at this
  · rw [List.take_of_length_le (by omega), Nat.mod_eq_of_lt]
    exact Nat.lt_of_lt_of_le (val_lt h) (Nat.pow_le_pow_right B_pos (by omega))
theorem val_drop_div {xs : List Nat} (h : Dg xs) (k : Nat) : val (xs.drop k) = val xs / B ^ k := by
  by_cases hk : k ≤ xs.length
  · have := val_append (xs.take k) (xs.drop k)
    rw [List.take_append_drop, List.length_take, Nat.min_eq_left hk] at this
    have h2 := val_lt (dg_take h k)
    rw [List.length_take, Nat.min_eq_left hk] at h2
    rw [this, Nat.add_mul_div_left _ _ (Nat.pow_pos B_pos), Nat.div_eq_of_lt h2, Nat.zero_add]
  · rw [List.drop_eq_nil_of_le (by omega), Nat.div_eq_of_lt]
    · rfl
    · exact Nat.lt_of_lt_of_le (val_lt h) (Nat.pow_le_pow_right B_pos (by omega))
theorem val_split {xs : List Nat} {k : Nat} (hk : k ≤ xs.length) : val xs = val (xs.take k) + B ^ k * val (xs.drop k) := by
  have := val_append (xs.take k) (xs.drop k)
  rwa [List.take_append_drop, List.length_take, Nat.min_eq_left hk] at this
theorem lt_of_digit {m n k : Nat} (hm : k < ln m) (hn : k < ln n) (hd : (dig m).drop (k + 1) = (dig n).drop (k + 1)) (h : (dig m).getD k 0 < (dig n).getD k 0) : m < n := by
  have e1 := val_split (xs := dig m) (k := k + 1) hm
  have e2 := val_split (xs := dig n) (k := k + 1) hn
  rw [val_dig, val_take_succ hm] at e1
  rw [val_dig, val_take_succ hn, ← hd] at e2
  have l1 := val_lt (dg_take (dg_dig m) k)
  rw [List.length_take, Nat.min_eq_left (by unfold ln at hm; omega)] at l1
  have : B ^ k * ((dig m).getD k 0 + 1) ≤ B ^ k * (dig n).getD k 0 := Nat.mul_le_mul_left _ h
  rw [Nat.mul_add] at this
  omega
theorem drop_pred {m n k : Nat} (hm : k < ln m) (hn : k < ln n) (hd : (dig m).drop (k + 1) = (dig n).drop (k + 1)) (h : (dig m).getD k 0 = (dig n).getD k 0) : (dig m).drop k = (dig n).drop k := by
  rw [List.drop_eq_getElem_cons hm, List.drop_eq_getElem_cons hn, hd]
  congr 1
  unfold ln at hm hn
  simpa [hm, hn] using h
theorem dig_length (n : Nat) : (dig n).length = ln n := rfl
theorem dig_inj {m n : Nat} (h : dig m = dig n) : m = n := by rw [← val_dig m, ← val_dig n, h]
theorem top_bit {n : Nat} (h : n < 4294967296) : n / 2147483648 = (n.testBit 31).toNat := by
  have e : n.testBit 31 = decide (n / 2 ^ 31 % 2 = 1) := Nat.testBit_eq_decide_div_mod_eq
  rw [e]
  have h2 : n / 2147483648 < 2 := by omega
  simp only [Nat.reducePow]
  rcases Nat.lt_or_ge (n / 2147483648) 1 with h1 | h1
  · have : n / 2147483648 = 0 := by omega
    rw [this]; rfl
  · have : n / 2147483648 = 1 := by omega
    rw [this]; rfl
theorem bit_of {n : Nat} (h : n < 4294967296) : n.testBit 31 = decide (2147483648 ≤ n) := by
  have e : n.testBit 31 = decide (n / 2 ^ 31 % 2 = 1) := Nat.testBit_eq_decide_div_mod_eq
  rw [e]
  simp only [Nat.reducePow]
  apply decide_eq_decide.2
  omega
theorem borrow_law {x y c : Nat} (hx : x < 4294967296) (hy : y < 4294967296) (hc : c ≤ 1) :
    (((4294967295 ^^^ x) &&& y) ||| ((4294967295 ^^^ (x ^^^ y)) &&& ((4294967296 + x - y - c) % 4294967296))) / 2147483648 = if x < y + c then 1 else 0 := by
  have hd : (4294967296 + x - y - c) % 4294967296 < 4294967296 := Nat.mod_lt _ (by decide)
  have hm : (4294967295 : Nat) < 2 ^ 32 := by decide
  have h1 : 4294967295 ^^^ x < 2 ^ 32 := Nat.xor_lt_two_pow hm hx
  have h2 : x ^^^ y < 2 ^ 32 := Nat.xor_lt_two_pow hx hy
  have h3 : 4294967295 ^^^ (x ^^^ y) < 2 ^ 32 := Nat.xor_lt_two_pow hm h2
  have hl : (4294967295 ^^^ x) &&& y < 2 ^ 32 := Nat.and_lt_two_pow _ hy
  have hr : (4294967295 ^^^ (x ^^^ y)) &&& ((4294967296 + x - y - c) % 4294967296) < 2 ^ 32 := Nat.and_lt_two_pow _ hd
  rw [top_bit (Nat.or_lt_two_pow hl hr), Nat.testBit_or, Nat.testBit_and, Nat.testBit_and, Nat.testBit_xor, Nat.testBit_xor, Nat.testBit_xor, bit_of hx, bit_of hy, bit_of hd, bit_of (n := 4294967295) (by decide)]
  by_cases a : 2147483648 ≤ x <;> by_cases b : 2147483648 ≤ y <;> by_cases d : 2147483648 ≤ (4294967296 + x - y - c) % 4294967296 <;> simp [a, b, d] <;> omega
theorem set_at (ds : List Nat) (i x : Nat) (h : i < ds.length) : ds.set i x = ds.take i ++ x :: ds.drop (i + 1) := by
  rw [List.set_eq_take_append_cons_drop, if_pos h]
theorem set_next (ds : List Nat) (z x : Nat) (hz : 0 < z) : (ds ++ List.replicate z 0).set ds.length x = (ds ++ [x]) ++ List.replicate (z - 1) 0 := by
  obtain ⟨z, rfl⟩ : ∃ k, z = k + 1 := ⟨z - 1, by omega⟩
  rw [List.set_append_right _ _ (Nat.le_refl _), Nat.sub_self, List.replicate_succ, List.set_cons_zero]
  simp
theorem val_snoc (ds : List Nat) (x : Nat) : val (ds ++ [x]) = val ds + B ^ ds.length * x := by rw [val_append, val_single]
theorem getD_zero_of_le {xs : List Nat} {k : Nat} (h : xs.length ≤ k) : xs.getD k 0 = 0 := by
  rw [List.getD_eq_getElem?_getD, List.getElem?_eq_none h]; rfl
theorem val_take_next (xs : List Nat) (k : Nat) : val (xs.take (k + 1)) = val (xs.take k) + B ^ k * xs.getD k 0 := by
  by_cases h : k < xs.length
  · exact val_take_succ h
  · rw [List.take_of_length_le (by omega), List.take_of_length_le (by omega), getD_zero_of_le (by omega)]; simp
theorem add_step {ds : List Nat} {k cy a b X Y : Nat} (hl : ds.length = k) (h : val ds + B ^ k * cy = X + Y) :
    val (ds ++ [(a + b + cy) % 4294967296]) + B ^ (k + 1) * ((a + b + cy) / 4294967296) = (X + B ^ k * a) + (Y + B ^ k * b) := by
  rw [val_snoc, hl, Nat.pow_succ, Nat.mul_assoc]
  have e : B ^ k * ((a + b + cy) % 4294967296) + B ^ k * (B * ((a + b + cy) / 4294967296)) = B ^ k * (a + b + cy) := by
    rw [← Nat.mul_add]
    congr 1
    exact Nat.mod_add_div _ _
  have e2 : B ^ k * (a + b + cy) = B ^ k * a + B ^ k * b + B ^ k * cy := by rw [Nat.mul_add, Nat.mul_add]
  omega
theorem get_zero (ds : List Nat) (z k : Nat) (h : ds.length ≤ k) : (ds ++ List.replicate z 0).getD k 0 = 0 := by
  rw [List.getD_eq_getElem?_getD, List.getElem?_append_right h, List.getElem?_replicate]
  split <;> rfl
theorem val_take_all {n k : Nat} (h : ln n ≤ k) : val ((dig n).take k) = n := by rw [List.take_of_length_le h, val_dig]
theorem dg_one {x : Nat} (h : x < B) : Dg [x] := by intro y hy; simp at hy; subst hy; exact h
theorem mod_dg (x : Nat) : Dg [x % 4294967296] := dg_one (Nat.mod_lt _ (by decide))
theorem val_set {ds : List Nat} {i : Nat} (h : i < ds.length) (x : Nat) : val (ds.set i x) + B ^ i * ds.getD i 0 = val ds + B ^ i * x := by
  have e1 := val_split (xs := ds) (k := i) (by omega)
  have e2 : val (ds.set i x) = val (ds.take i) + B ^ i * val (x :: ds.drop (i + 1)) := by
    rw [set_at ds i x h, val_append, List.length_take, Nat.min_eq_left (by omega)]
  have e3 : ds.drop i = ds.getD i 0 :: ds.drop (i + 1) := by
    rw [List.drop_eq_getElem_cons h]
    simp [h]
  rw [e3] at e1
  rw [val, Nat.mul_add] at e1 e2
  omega
theorem dg_set {ds : List Nat} (h : Dg ds) (i : Nat) {x : Nat} (hx : x < B) : Dg (ds.set i x) := fun y hy => (List.mem_or_eq_of_mem_set hy).elim (h y) (fun e => e ▸ hx)
theorem dg_zeros (n : Nat) : Dg (List.replicate n 0) := fun x hx => by rw [(List.mem_replicate.1 hx).2]; exact B_pos
theorem val_zeros (n : Nat) : val (List.replicate n 0) = 0 := by
  induction n with
  | zero => rfl
  | succ n ih => rw [List.replicate_succ, val, ih]; rfl
theorem getD_zeros (n k : Nat) : (List.replicate n 0).getD k 0 = 0 := by
  rw [List.getD_eq_getElem?_getD, List.getElem?_replicate]
  split <;> rfl
theorem getD_set_ne {ds : List Nat} {i j : Nat} (h : i ≠ j) (x : Nat) : (ds.set i x).getD j 0 = ds.getD j 0 := by
  rw [List.getD_eq_getElem?_getD, List.getD_eq_getElem?_getD, List.getElem?_set_ne h]
theorem mul_fits {x y o c : Nat} (hx : x < 4294967296) (hy : y < 4294967296) (ho : o < 4294967296) (hc : c < 4294967296) : x * y ≤ 18446744065119617025 ∧ x * y + o + c ≤ 18446744073709551615 ∧ (x * y + o + c) / 4294967296 < 4294967296 := by
  have h : x * y ≤ 4294967295 * 4294967295 := Nat.mul_le_mul (by omega) (by omega)
  omega
theorem mul_step {ds : List Nat} {i j x y c V A : Nat} (hl : i + j < ds.length) (h : val ds + B ^ (i + j) * c = V + B ^ i * (x * A)) :
    val (ds.set (i + j) ((x * y + ds.getD (i + j) 0 + c) % 4294967296)) + B ^ (i + (j + 1)) * ((x * y + ds.getD (i + j) 0 + c) / 4294967296) = V + B ^ i * (x * (A + B ^ j * y)) := by
  have e1 := val_set hl ((x * y + ds.getD (i + j) 0 + c) % 4294967296)
  generalize ds.getD (i + j) 0 = o at e1 ⊢
  have e2 : B ^ (i + j) * ((x * y + o + c) % 4294967296) + B ^ (i + (j + 1)) * ((x * y + o + c) / 4294967296) = B ^ (i + j) * (x * y + o + c) := by
    rw [show i + (j + 1) = (i + j) + 1 from rfl, Nat.pow_succ, Nat.mul_assoc, ← Nat.mul_add]
    congr 1
    exact Nat.mod_add_div _ _
  have e3 : B ^ i * (x * (A + B ^ j * y)) = B ^ i * (x * A) + B ^ (i + j) * (x * y) := by
    rw [Nat.mul_add, Nat.mul_add, Nat.pow_add]
    congr 1
    rw [← Nat.mul_assoc x, Nat.mul_comm x (B ^ j), Nat.mul_assoc (B ^ j), ← Nat.mul_assoc (B ^ i)]
  have e4 : B ^ (i + j) * (x * y + o + c) = B ^ (i + j) * (x * y) + B ^ (i + j) * o + B ^ (i + j) * c := by rw [Nat.mul_add, Nat.mul_add]
  omega
end Go.Proofs.Ytcjcpfafalkceaa
set_option linter.unusedVariables false
namespace Go.Proofs.Ytcjcpfafalkceaa
open Go.RowKit
structure Hd (p : Prop) : Prop where mk :: (out : p)
theorem ret_bool {a b : Bool} (h : a = b) : Ending.returned (.bool a) = .returned (.bool b) := by rw [h]
theorem ret_int {k : IntKind} {a b : Int} (h : a = b) : Ending.returned (.int k a) = .returned (.int k b) := by rw [h]
theorem bcell {W w1 : World} (hb : Below W.heap.size W w1) : (∀ b o, b < W.heap.size → w1.cell? ⟨b, o, none⟩ = W.cell? ⟨b, o, none⟩) ∧ (∀ b o, b < W.heap.size → w1.frozen? ⟨b, o, none⟩ = W.frozen? ⟨b, o, none⟩) :=
  ⟨fun b o h => hb.cell (p := ⟨b, o, none⟩) h, fun b o h => hb.frozen (p := ⟨b, o, none⟩) h⟩
theorem below_alloc {w W : World} (h : Below w.heap.size w W) (o : Obj) : Below w.heap.size w (W.alloc o) := h.alloc h.size o
theorem below_drewN {B : Nat} {w W : World} (h : Below B w W) (n : Nat) : Below B w (W.drewN n) := ⟨h.os, h.tape, h.output, h.size, h.block⟩
theorem below_drew {B : Nat} {w W : World} (h : Below B w W) : Below B w W.drew := ⟨h.os, h.tape, h.output, h.size, h.block⟩
theorem below_then {B : Nat} {w w1 w2 : World} (h : Below B w w1) (hB : B ≤ w1.heap.size) (k : Below w1.heap.size w1 w2) : Below B w w2 :=
  h.trans ⟨k.os, k.tape, k.output, k.size, fun i hi => k.block i (Nat.lt_of_lt_of_le hi hB)⟩
theorem bel_then {w w1 w2 : World} (h : Below w.heap.size w w1) (k : Below w1.heap.size w1 w2) : Below w.heap.size w w2 := below_then h h.size k
def RN (w : World) (A : Option Addr) (xs : List Nat) : Prop :=
  0 < xs.length → ∃ ad : Addr, A = some ad ∧ ∀ j, j < xs.length → w.cell? (ad.add j) = some (.int .u32 ((xs.getD j 0 : Nat) : Int))
theorem block_add (a : Addr) (n : Nat) : (a.add n).block = a.block := by unfold Addr.add; split <;> rfl
theorem add_add (a : Addr) (i j : Nat) : (a.add i).add j = a.add (i + j) := by
  unfold Addr.add
  by_cases hi : i = 0 <;> by_cases hj : j = 0 <;> simp [hi, hj, Nat.add_assoc]
theorem RN.nil (w : World) (A : Option Addr) : RN w A [] := fun h => absurd h (by simp)
theorem RN.to {w w' : World} {A : Option Addr} {xs : List Nat} (h : RN w A xs) (hb : Below w.heap.size w w') : RN w' A xs := fun hn => by
  obtain ⟨ad, e, hc⟩ := h hn
  exact ⟨ad, e, fun j hj => (hb.cell (World.block_lt_of_cell? w _ (hc j hj))).trans (hc j hj)⟩
theorem RN.take {w : World} {A : Option Addr} {xs : List Nat} (h : RN w A xs) (k : Nat) : RN w A (xs.take k) := fun hn => by
  obtain ⟨ad, e, hc⟩ := h (by rw [List.length_take] at hn; omega)
  refine ⟨ad, e, fun j hj => ?_⟩
  rw [List.length_take] at hj
  rw [hc j (by omega), List.getD_eq_getElem?_getD, List.getD_eq_getElem?_getD, List.getElem?_take, if_pos (by omega)]
theorem RN.at_ {w : World} {A : Option Addr} {xs : List Nat} (h : RN w A xs) {k : Nat} (hk : k < xs.length) : ∃ ad, A = some ad ∧ w.cell? (ad.add k) = some (.int .u32 ((xs.getD k 0 : Nat) : Int)) := by
  obtain ⟨ad, e, hc⟩ := h (by omega)
  exact ⟨ad, e, hc k hk⟩
def NN (w : World) (A : Option Addr) (c n : Nat) : Prop := RN w A (dig n) ∧ ln n ≤ c ∧ c ≤ 9223372036854775807
theorem NN.to {w w' : World} {A : Option Addr} {c n : Nat} (h : NN w A c n) (hb : Below w.heap.size w w') : NN w' A c n := ⟨h.1.to hb, h.2⟩
theorem NN.at_ {w : World} {A : Option Addr} {c n : Nat} (h : NN w A c n) {k : Nat} (hk : k < ln n) : ∃ ad, A = some ad ∧ w.cell? (ad.add k) = some (.int .u32 (((dig n).getD k 0 : Nat) : Int)) := h.1.at_ hk
theorem NN.nil (w : World) (A : Option Addr) (c : Nat) (hc : c ≤ 9223372036854775807) : NN w A c 0 := ⟨by rw [dig_zero]; exact RN.nil _ _, by rw [ln_zero]; omega, hc⟩
def RetN (n : Nat) (w : World) (e : Ending) (w' : World) : Prop := ∃ A c, e = .returned (.slice A (ln n) c) ∧ NN w' A c n ∧ Below w.heap.size w w'
def Blk (w : World) (g : Nat) (t : TypeId) (cs : List Value) : Prop := w.heap[g]? = some (.cells cs.toArray t (0, 0))
section
variable {w w' : World} {g : Nat} {t : TypeId} {cs : List Value}
theorem Blk.lt (h : Blk w g t cs) : g < w.heap.size := by
  rcases Nat.lt_or_ge g w.heap.size with hlt | hge
  · exact hlt
  · unfold Blk at h; rw [Array.getElem?_eq_none hge] at h; cases h
theorem Blk.cell (h : Blk w g t cs) (i : Nat) : w.cell? ⟨g, i, none⟩ = cs[i]? := by
  rw [cell_of_row w g i cs.toArray t (0, 0) h]; simp
theorem Blk.frozen (h : Blk w g t cs) (i : Nat) : w.frozen? ⟨g, i, none⟩ = false := by
  unfold Blk at h
  simp [World.frozen?, h]
theorem Blk.drew (h : Blk w g t cs) : Blk w.drew g t cs := h
theorem Blk.drewN (h : Blk w g t cs) (n : Nat) : Blk (w.drewN n) g t cs := h
theorem Blk.alloc (h : Blk w g t cs) (o : Obj) : Blk (w.alloc o) g t cs := (Below.heap_alloc w o g h.lt).trans h
theorem Blk.set_ (h : Blk w g t cs) (i : Nat) (u : Value) : Blk (w.setCell ⟨g, i, none⟩ u) g t (cs.set i u) := by
  unfold Blk at h ⊢
  simp [World.setCell, Array.getElem?_modify, h]
theorem Blk.far (h : Blk w g t cs) {p : Addr} (hp : g ≠ p.block) (u : Value) : Blk (w.setCell p u) g t cs := (Below.heap_setCell w p u g hp).trans h
theorem Blk.to (h : Blk w g t cs) (hb : Below w.heap.size w w') : Blk w' g t cs := (hb.block g h.lt).trans h
end
def cells (ds : List Nat) : List Value := ds.map fun x => Value.int .u32 ((x : Nat) : Int)
theorem cells_length (ds : List Nat) : (cells ds).length = ds.length := by simp [cells]
theorem cells_get (ds : List Nat) {i : Nat} (h : i < ds.length) : (cells ds)[i]? = some (.int .u32 ((ds.getD i 0 : Nat) : Int)) := by
  simp [cells, h]
theorem cells_set (ds : List Nat) (i x : Nat) : (cells ds).set i (.int .u32 ((x : Nat) : Int)) = cells (ds.set i x) := by
  simp [cells]
theorem Blk.reads {w : World} {g : Nat} {t : TypeId} {ds : List Nat} (h : Blk w g t (cells ds)) : RN w (some ⟨g, 0, none⟩) ds := fun _ => ⟨_, rfl, fun j hj => by
  have := h.cell j
  rw [cells_get ds hj] at this
  rw [← this]
  have e : (⟨g, 0, none⟩ : Addr).add j = ⟨g, j, none⟩ := by
    unfold Addr.add
    split
    · next h => rw [h]
    · simp
  rw [e]⟩
theorem below_set {B : Nat} {w W : World} (h : Below B w W) {g i : Nat} (hg : B ≤ g) (u : Value) : Below B w (W.setCell ⟨g, i, none⟩ u) := h.setCell (p := ⟨g, i, none⟩) hg u
theorem RN.of_take {w : World} {A : Option Addr} {xs : List Nat} (h : RN w A xs) (hd : Dg xs) : RN w A (dig (val xs)) := by
  have key : ∃ k, k ≤ xs.length ∧ dig (val xs) = xs.take k := by
    have : ∀ m, m ≤ xs.length → val (xs.take m) = val xs → ∃ k, k ≤ xs.length ∧ dig (val xs) = xs.take k := by
      intro m
      induction m with
      | zero => exact fun h0 hv => ⟨0, h0, dig_take hd h0 hv (fun j hj => by omega)⟩
      | succ m ih =>
        intro hm hv
        by_cases hz : xs.getD m 0 = 0
        · refine ih (by omega) ?_
          rw [← hv, val_take_succ (by omega), hz]; simp
        · exact ⟨m + 1, hm, dig_take hd hm hv (fun j hj => by rw [show j = m from by omega]; exact hz)⟩
    exact this xs.length (Nat.le_refl _) (by rw [List.take_length])
  obtain ⟨k, hk, e⟩ := key
  rw [e]
  exact h.take k
theorem zeros_cells (n : Nat) : List.replicate n (Value.int .u32 0) = cells (List.replicate n 0) := by simp [cells]
theorem cells_append (a b : List Nat) : cells (a ++ b) = cells a ++ cells b := by simp [cells]
theorem Blk.at_ {w : World} {g : Nat} {t : TypeId} {ds : List Nat} (h : Blk w g t (cells ds)) {i : Nat} (hi : i < ds.length) : w.cell? ⟨g, i, none⟩ = some (.int .u32 ((ds.getD i 0 : Nat) : Int)) := by
  rw [h.cell, cells_get ds hi]
theorem Blk.put {w : World} {g : Nat} {t : TypeId} {ds : List Nat} (h : Blk w g t (cells ds)) (i x : Nat) : Blk (w.setCell ⟨g, i, none⟩ (.int .u32 ((x : Nat) : Int))) g t (cells (ds.set i x)) := by
  rw [← cells_set]; exact h.set_ i _
theorem Try.info_word : (Try.prog.info? 72).map (fun i => (i.zero, i.size, i.bytes)) = some (some (.int .u32 0), 1, 4) := by kernel_rfl
set_option maxRecDepth 100000 in
theorem make_words (t : TypeId) (ht : Try.prog.underlying t = some (.slice 72)) (z : Int) (n : Nat) (hz : z = (n : Int)) (hn : n ≤ 35184372088832) (w : World) :
    (Instr.makeSlice t (.int .i64 z) (.int .i64 z)).run Try.prog w = .ok (.slice (some ⟨w.heap.size, 0, none⟩) n n) (w.alloc (.cells (cells (List.replicate n 0)).toArray 72)) := by
  obtain ⟨i0, hi, hz0, hz1, hz2⟩ := info_parts Try.info_word
  subst hz
  have hb : (i0.bytes : Int) * (n : Int) ≤ 281474976710656 := by rw [hz2]; omega
  have hr := run_make (P := Try.prog) w t 72 i0 (.int .u32 0) ht hi hz0 .i64 .i64 n n (by omega) (by omega) hb (by omega)
  simp only [Int.toNat_natCast] at hr
  rw [hr]
  congr 3
  rw [← zeros_cells, hz1]
  apply Array.ext
  · simp [madeCells]
  · intro i h1 h2
    simp [madeCells, Value.cells, Nat.mod_one]
def RetZ (z : Int) (w : World) (e : Ending) (w' : World) : Prop := ∃ A c, e = .returned (.agg #[.bool (decide (z < 0)), .slice A (ln z.natAbs) c]) ∧ NN w' A c z.natAbs ∧ Below w.heap.size w w'
theorem NN.set_ {w : World} {A : Option Addr} {c n : Nat} (h : NN w A c n) {p : Addr} {v : Value} (hp : w.cell? p = some v) (hv : ∀ x : Int, v ≠ .int .u32 x) (u : Value) : NN (w.setCell p u) A c n :=
  ⟨fun hn => by
    obtain ⟨ad, e, hc⟩ := h.1 hn
    exact ⟨ad, e, fun j hj => (World.cell?_setCell_other w p _ u (fun e2 => hv _ (Option.some.inj (hp.symm.trans ((congrArg w.cell? e2).trans (hc j hj)))))).trans (hc j hj)⟩, h.2⟩
theorem two_set {w1 : World} {g : Nat} {x0 x1 : Value} (h0 : w1.cell? ⟨g, 0, none⟩ = some x0) (h1 : w1.cell? ⟨g, 1, none⟩ = some x1) (u v : Value) :
    ((w1.setCell ⟨g, 0, none⟩ u).setCell ⟨g, 1, none⟩ v).cell? ⟨g, 0, none⟩ = some u ∧ ((w1.setCell ⟨g, 0, none⟩ u).setCell ⟨g, 1, none⟩ v).cell? ⟨g, 1, none⟩ = some v ∧ (w1.setCell ⟨g, 0, none⟩ u).cell? ⟨g, 1, none⟩ = some x1 := by
  have e1 : (w1.setCell ⟨g, 0, none⟩ u).cell? ⟨g, 1, none⟩ = some x1 := (World.cell?_setCell_other _ _ _ _ (by simp)).trans h1
  exact ⟨(World.cell?_setCell_other _ _ _ _ (by simp)).trans (World.cell?_setCell_same _ _ _ h0), World.cell?_setCell_same _ _ _ e1, e1⟩
theorem wp_still_tail {P : Program} {id : Nat} {Q : Exit → Act → World → Prop} {a : Act} {w : World} {l : List Oper} (n : Nat) (hm : P.follows .mixedOrders = true) (hB : Region.lexTailB .any l.toArray n = true)
    (h : ∀ w2, w2 = w.drew → wpStill P l.toArray w2 (fun a' => wpList P l.toArray Q (l.drop n) a' w2) (l.take n) a) : (Code.region id l.toArray true).wp P Q a w := wp_region_still_tail n hm hB (h _ rfl)
theorem blk_third (w : World) (o1 o2 : Obj) (cs : List Value) (t : TypeId) : Blk (((w.alloc o1).alloc o2).alloc (.cells cs.toArray t)) (w.heap.size + 1 + 1) t cs := by
  have h : ((w.alloc o1).alloc o2).heap.size = w.heap.size + 1 + 1 := by simp
  unfold Blk
  rw [← h]
  exact heap_alloc_new _ _
def RetZE (z err : Int) (w : World) (e : Ending) (w' : World) : Prop := ∃ A c, e = .returned (.tuple #[.agg #[.bool (decide (z < 0)), .slice A (ln z.natAbs) c], .int .i64 err]) ∧ NN w' A c z.natAbs ∧ Below w.heap.size w w'
def fitz (z : Int) : Int := if ln z.natAbs ≤ 256 then z else 0
def fite (z : Int) : Int := if ln z.natAbs ≤ 256 then 0 else 5
theorem blk_second (w : World) (o1 : Obj) (cs : List Value) (t : TypeId) : Blk ((w.alloc o1).alloc (.cells cs.toArray t)) (w.heap.size + 1) t cs := by
  have h : (w.alloc o1).heap.size = w.heap.size + 1 := by simp
  unfold Blk
  rw [← h]
  exact heap_alloc_new _ _
end Go.Proofs.Ytcjcpfafalkceaa
