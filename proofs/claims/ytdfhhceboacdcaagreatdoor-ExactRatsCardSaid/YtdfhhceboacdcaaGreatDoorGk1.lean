/- Part 1 of the texts behind this claim. -/
import Derived.Lib.ItoaNum
import Derived.Test.YtdfhhceboacdcaaGreatDoorProg
import Derived.Below
import Derived.WalkKit
import Derived.WalkSpells
import Derived.OwnWalk
import Derived.Deep.Draws
import Derived.Deep.LoopGhost
import Derived.Deep.RegionHeld3
import Derived.Deep.DeepCutAuto
import Derived.Deep.QuietTactic
import Derived.BigQuiet
import Derived.IntWalk
import Derived.StillTailTactics
import Derived.Laws.MakeOwn
import Derived.Laws.Entries
import Derived.Laws.BitsAllLaws
import Derived.Laws.BitsLemmas
import Derived.KernelRfl
import Derived.Outline
set_option linter.unusedVariables false
namespace Go.Proofs.YtdfhhceboacdcaaGreatDoor
open Go.Lib
def dc (x : Nat) : UInt8 := UInt8.ofNat (48 + x)
def revd (n : Nat) : List UInt8 := if h : n = 0 then [] else dc (n % 10) :: revd (n / 10)
termination_by n
decreasing_by omega
theorem revd_zero : revd 0 = [] := by rw [revd, dif_pos rfl]
theorem revd_pos {n : Nat} (h : n ≠ 0) : revd n = dc (n % 10) :: revd (n / 10) := by rw [revd, dif_neg h]
theorem decDigits_revd : ∀ n : Nat, n ≠ 0 → decDigits n = (revd n).reverse := by
 intro n
 induction n using Nat.strongRecOn with
 | _ n ih =>
  intro h; rw [revd_pos h, decDigits]; by_cases h1 : n < 10
  ·rw [dif_pos h1, show n / 10 = 0 by omega, revd_zero, Nat.mod_eq_of_lt h1]; rfl
  rw [dif_neg h1, ih (n / 10) (by omega) (by omega)]; simp [dc]
def lowd : Nat → Nat → List UInt8
 | 0, _ => []
 | k + 1, n => dc (n % 10) :: lowd k (n / 10)
theorem revd_low : ∀ (k q r : Nat), q ≠ 0 → r < 10 ^ k → revd (q * 10 ^ k + r) = lowd k r ++ revd q
 | 0, q, r, hq, hr => by simp at hr; subst hr; simp [lowd]
 | k + 1, q, r, hq, hr => by
  have hp : 0 < 10 ^ k := Nat.pow_pos (by omega); have e1 : 10 ^ (k + 1) = 10 * 10 ^ k := by rw [Nat.pow_succ, Nat.mul_comm]
  have hq' : 10 ^ (k + 1) ≤ q * 10 ^ (k + 1) := Nat.le_mul_of_pos_left _ (by omega); have e2 : (q * 10 ^ (k + 1) + r) % 10 = r % 10 := by rw [e1, ← Nat.mul_assoc, Nat.mul_comm q 10, Nat.mul_assoc]; omega
  have e3 : (q * 10 ^ (k + 1) + r) / 10 = q * 10 ^ k + r / 10 := by rw [e1, ← Nat.mul_assoc, Nat.mul_comm q 10, Nat.mul_assoc]; omega
  rw [revd_pos (by omega), e2, e3, revd_low k q (r / 10) hq (by omega)]; rfl
theorem lowd_zero : ∀ k, lowd k 0 = List.replicate k 48
 | 0 => rfl
 | k + 1 => by simp [lowd, lowd_zero k, List.replicate_succ]; decide
theorem lowd_revd : ∀ (k n : Nat), n < 10 ^ k → lowd k n = revd n ++ List.replicate (k - (revd n).length) 48
 | 0, n, h => by simp at h; subst h; simp [lowd, revd_zero]
 | k + 1, n, h => by
  by_cases h0 : n = 0
  ·subst h0; rw [lowd_zero, revd_zero]; simp
  rw [revd_pos h0]; have := lowd_revd k (n / 10) (by rw [Nat.pow_succ] at h; omega); simp [lowd, this]
theorem revd_len : ∀ (k n : Nat), n < 10 ^ k → (revd n).length ≤ k
 | 0, n, h => by simp at h; subst h; simp [revd_zero]
 | k + 1, n, h => by
  by_cases h0 : n = 0
  ·subst h0; simp [revd_zero]
  rw [revd_pos h0]; have := revd_len k (n / 10) (by rw [Nat.pow_succ] at h; omega); simp; omega
theorem dec_len {k n : Nat} (h : n < 10 ^ k) (hk : 1 ≤ k) : (decDigits n).length ≤ k := by
 by_cases h0 : n = 0
 ·subst h0; rw [decDigits, dif_pos (by omega)]; simpa using hk
 rw [decDigits_revd n h0, List.length_reverse]; exact revd_len k n h
theorem pad9 {r : Nat} (h : r < 1000000000) : List.replicate (9 - (decDigits r).length) 48 ++ decDigits r = (lowd 9 r).reverse := by
 by_cases h0 : r = 0
 ·subst h0; rw [decDigits, dif_pos (by omega), lowd_zero]; decide
 rw [decDigits_revd r h0, lowd_revd 9 r (by simpa using h)]; simp
def numd (n : Nat) : List UInt8 := (revd n).reverse
theorem numd_pos {n : Nat} (h : n ≠ 0) : numd n = decDigits n := (decDigits_revd n h).symm
theorem numd_zero : numd 0 = [] := by simp [numd, revd_zero]
theorem numd_last {m : Nat} (h : m ≠ 0) (hq : m / 1000000000 = 0) : numd m = numd (m / 1000000000) ++ decDigits (m % 1000000000) := by
 rw [hq, numd_zero, numd_pos h, Nat.mod_eq_of_lt (by omega)]; rfl
theorem numd_more {m : Nat} (hq : m / 1000000000 ≠ 0) :
  numd m = numd (m / 1000000000) ++ (List.replicate (9 - (decDigits (m % 1000000000)).length) 48 ++ decDigits (m % 1000000000)) := by
 rw [pad9 (Nat.mod_lt _ (by omega))]; have := revd_low 9 (m / 1000000000) (m % 1000000000) hq (Nat.mod_lt _ (by omega)); rw [show m / 1000000000 * 10 ^ 9 + m % 1000000000 = m by omega] at this; unfold numd; rw [this]; simp
theorem text_step {q x k : Nat} (hk : k < 9) (hx : x < 10 ^ (9 - k)) (h : 0 < x ∨ q ≠ 0) :
  revd (q * 10 ^ (9 - k) + x) = dc (x % 10) :: revd (q * 10 ^ (9 - (k + 1)) + x / 10) ∧ x / 10 < 10 ^ (9 - (k + 1)) := by
 have e0 : 9 - k = (9 - (k + 1)) + 1 := by omega
 have e1 : 10 ^ (9 - k) = 10 * 10 ^ (9 - (k + 1)) := by rw [e0, Nat.pow_succ, Nat.mul_comm]
 have hne : q * 10 ^ (9 - k) + x ≠ 0 := by
  rcases h with h | h
  ·omega
  have : 10 ^ (9 - k) ≤ q * 10 ^ (9 - k) := Nat.le_mul_of_pos_left _ (by omega); have : 0 < 10 ^ (9 - k) := Nat.pow_pos (by omega); omega
 have e2 : (q * 10 ^ (9 - k) + x) % 10 = x % 10 := by rw [e1, ← Nat.mul_assoc, Nat.mul_comm q 10, Nat.mul_assoc]; omega
 have e3 : (q * 10 ^ (9 - k) + x) / 10 = q * 10 ^ (9 - (k + 1)) + x / 10 := by rw [e1, ← Nat.mul_assoc, Nat.mul_comm q 10, Nat.mul_assoc]; omega
 exact ⟨by rw [revd_pos hne, e2, e3], by omega⟩
theorem snoc_ind {p : List UInt8 → Prop} (h0 : p []) (h1 : ∀ l c, p l → p (l ++ [c])) (l : List UInt8) : p l := by
 rw [← List.reverse_reverse l]
 induction l.reverse with
 | nil => exact h0
 | cons c l ih => rw [List.reverse_cons]; exact h1 _ _ ih
def isD (c : UInt8) : Bool := decide (48 ≤ c.toNat) && decide (c.toNat ≤ 57)
def vald (l : List UInt8) : Nat := l.foldl (fun n c => n * 10 + (c.toNat - 48)) 0
theorem vald_snoc (l : List UInt8) (c : UInt8) : vald (l ++ [c]) = vald l * 10 + (c.toNat - 48) := by simp [vald, List.foldl_append]
theorem vald_le (l : List UInt8) : l.all isD = true → vald l < 10 ^ l.length := by
 refine snoc_ind (p := fun l => l.all isD = true → vald l < 10 ^ l.length) (by simp [vald]) ?_ l; intro l c ih h; rw [List.all_append, Bool.and_eq_true] at h; have := ih h.1; have hc : isD c = true := by simpa using h.2
 unfold isD at hc; rw [vald_snoc, List.length_append, List.length_singleton, Nat.pow_succ]; simp at hc; omega
theorem dc_sub {c : UInt8} (h : isD c = true) : dc (c.toNat - 48) = c := by
 unfold isD at h; simp at h; unfold dc; rw [show 48 + (c.toNat - 48) = c.toNat by omega]; simp
theorem dec_vald (l : List UInt8) : l.all isD = true → l ≠ [] → (l.head? ≠ some 48 ∨ l = [48]) → decDigits (vald l) = l ∧ (l.head? ≠ some 48 → vald l ≠ 0) := by
 refine snoc_ind (p := fun l => l.all isD = true → l ≠ [] → (l.head? ≠ some 48 ∨ l = [48]) → decDigits (vald l) = l ∧ (l.head? ≠ some 48 → vald l ≠ 0)) (fun _ h => absurd rfl h) ?_ l; intro l c ih h _ h0; rw [List.all_append, Bool.and_eq_true] at h; have hc : isD c = true := by simpa using h.2
 have hc' := hc; unfold isD at hc'; simp at hc'; rw [vald_snoc]; by_cases hl : l = []
 ·subst hl; refine ⟨?_, fun hh => ?_⟩
  ·rw [show vald [] = 0 from rfl, decDigits, dif_pos (by omega)]; simp only [Nat.zero_mul, Nat.zero_add]; rw [show UInt8.ofNat (48 + (c.toNat - 48)) = dc (c.toNat - 48) from rfl, dc_sub hc]; rfl
  simp at hh; intro he; apply hh; have : c.toNat = 48 := by simp [vald] at he; omega
  exact UInt8.toNat_inj.1 (by simpa using this)
 have hhd : l.head? ≠ some 48 := by
  rcases h0 with h0 | h0
  ·cases l with
  | nil => exact absurd rfl hl
  | cons a l => simpa using h0
  exfalso; have := congrArg List.length h0; simp at this; exact hl this
 obtain ⟨e, hne⟩ := ih h.1 hl (.inl hhd); have hv := hne hhd; refine ⟨?_, fun _ => by omega⟩
 rw [decDigits, dif_neg (by omega), show (vald l * 10 + (c.toNat - 48)) / 10 = vald l by omega, show (vald l * 10 + (c.toNat - 48)) % 10 = c.toNat - 48 by omega, e,
  show UInt8.ofNat (48 + (c.toNat - 48)) = dc (c.toNat - 48) from rfl, dc_sub hc]
theorem revd_head : ∀ n : Nat, n ≠ 0 → (revd n).getLast? ≠ some 48 := by
 intro n
 induction n using Nat.strongRecOn with
 | _ n ih =>
  intro h; rw [revd_pos h]; by_cases h1 : n / 10 = 0
  ·rw [h1, revd_zero]; have : n % 10 ≠ 0 := by omega
   have h2 : n % 10 < 10 := Nat.mod_lt _ (by omega); have h3 : ∀ d : Fin 10, d.val ≠ 0 → dc d.val ≠ 48 := by decide
   simp; exact h3 ⟨n % 10, h2⟩ this
  have := ih (n / 10) (by omega) h1; rw [revd_pos h1] at this ⊢; simpa using this
theorem dec_bad {l : List UInt8} {m : Nat} (h0 : l.head? = some 48) (h1 : l ≠ [48]) : decDigits m ≠ l := by
 intro e; by_cases hm : m = 0
 ·subst hm; rw [decDigits, dif_pos (by omega)] at e; exact h1 e.symm
 rw [decDigits_revd m hm] at e; have := revd_head m hm; rw [← e, List.head?_reverse] at h0; exact this h0
end Go.Proofs.YtdfhhceboacdcaaGreatDoor
set_option linter.unusedVariables false
namespace Go.Proofs.YtdfhhceboacdcaaGreatDoor
def B : Nat := 4294967296
theorem B_pos : 0 < B := by decide
def val : List Nat → Nat
 | [] => 0
 | x :: xs => x + B * val xs
def Dg (xs : List Nat) : Prop := ∀ x ∈ xs, x < B
def dig (n : Nat) : List Nat := if h : n = 0 then [] else n % B :: dig (n / B)
termination_by n
decreasing_by exact Nat.div_lt_self (Nat.pos_of_ne_zero h) (by decide)
theorem dig_zero : dig 0 = [] := by rw [dig]; simp
theorem dig_pos {n : Nat} (h : n ≠ 0) : dig n = n % B :: dig (n / B) := by rw [dig]; simp [h]
theorem val_dig (n : Nat) : val (dig n) = n := by
 induction n using Nat.strongRecOn with
 | _ n ih =>
  by_cases h : n = 0
  ·subst h; rw [dig_zero]; rfl
  rw [dig_pos h, val, ih _ (Nat.div_lt_self (Nat.pos_of_ne_zero h) (by decide))]; exact Nat.mod_add_div n B
theorem dg_dig (n : Nat) : Dg (dig n) := by
 induction n using Nat.strongRecOn with
 | _ n ih =>
  by_cases h : n = 0
  ·subst h; rw [dig_zero]; intro x hx; cases hx
  rw [dig_pos h]; intro x hx; rcases List.mem_cons.1 hx with rfl | hx
  ·exact Nat.mod_lt _ B_pos
  exact ih _ (Nat.div_lt_self (Nat.pos_of_ne_zero h) (by decide)) x hx
theorem val_append (xs ys : List Nat) : val (xs ++ ys) = val xs + B ^ xs.length * val ys := by
 induction xs with
 | nil => simp [val]
 | cons x xs ih => rw [List.cons_append, val, val, ih, List.length_cons, Nat.pow_succ, Nat.mul_add, Nat.mul_comm (B ^ xs.length) B, Nat.mul_assoc]; omega
theorem dg_append {xs ys : List Nat} (h : Dg xs) (k : Dg ys) : Dg (xs ++ ys) := fun x hx => (List.mem_append.1 hx).elim (h x) (k x)
theorem dg_take {xs : List Nat} (h : Dg xs) (k : Nat) : Dg (xs.take k) := fun x hx => h x (List.mem_of_mem_take hx)
theorem dg_drop {xs : List Nat} (h : Dg xs) (k : Nat) : Dg (xs.drop k) := fun x hx => h x (List.mem_of_mem_drop hx)
theorem dg_get {xs : List Nat} (h : Dg xs) (i : Nat) : xs.getD i 0 < B := by
 rw [List.getD_eq_getElem?_getD]; by_cases hi : i < xs.length
 ·rw [List.getElem?_eq_getElem hi]; exact h _ (List.getElem_mem hi)
 rw [List.getElem?_eq_none (by omega)]; exact B_pos
theorem val_lt {xs : List Nat} (h : Dg xs) : val xs < B ^ xs.length := by
 induction xs with
 | nil => simp [val]
 | cons x xs ih =>
  have h1 := h x (List.mem_cons_self); have h2 := ih (fun y hy => h y (List.mem_cons_of_mem _ hy)); rw [val, List.length_cons, Nat.pow_succ]; have : B * (val xs + 1) ≤ B * B ^ xs.length := Nat.mul_le_mul_left _ h2; rw [Nat.mul_comm (B ^ xs.length)]; rw [Nat.mul_add] at this; omega
theorem val_single (x : Nat) : val [x] = x := by simp [val]
theorem dig_val {xs : List Nat} (h : Dg xs) (hl : ∀ k, k + 1 = xs.length → xs.getD k 0 ≠ 0) : dig (val xs) = xs := by
 induction xs with
 | nil => exact dig_zero
 | cons x xs ih =>
  have hx := h x (List.mem_cons_self); have hd : Dg xs := fun y hy => h y (List.mem_cons_of_mem _ hy)
  have hv : val (x :: xs) ≠ 0 := by
   rcases xs with _ | ⟨y, ys⟩
   ·have := hl 0 rfl; simpa [val] using this
   have hy := ih hd (fun k hk => by have := hl (k + 1) (by simp at hk ⊢; omega); simpa using this); intro h0
   have h1 : val (y :: ys) = 0 := by
    rw [val] at h0; rcases Nat.eq_zero_or_pos (val (y :: ys)) with h | h
    ·exact h
    have := Nat.mul_pos B_pos h; omega
   rw [h1, dig_zero] at hy; cases hy
  rw [dig_pos hv]; have h1 : val (x :: xs) % B = x := by rw [val, Nat.add_mul_mod_self_left]; exact Nat.mod_eq_of_lt hx
  have h2 : val (x :: xs) / B = val xs := by rw [val, Nat.add_mul_div_left _ _ B_pos, Nat.div_eq_of_lt hx, Nat.zero_add]
  rw [h1, h2]; rcases xs with _ | ⟨y, ys⟩
  ·simp [val, dig_zero]
  rw [ih hd (fun k hk => by have := hl (k + 1) (by simp at hk ⊢; omega); simpa using this)]
theorem dig_last (n : Nat) : ∀ k, k + 1 = (dig n).length → (dig n).getD k 0 ≠ 0 := by
 induction n using Nat.strongRecOn with
 | _ n ih =>
  intro k hk; by_cases h : n = 0
  ·subst h; rw [dig_zero] at hk; cases hk
  rw [dig_pos h] at hk ⊢; have hlt := Nat.div_lt_self (Nat.pos_of_ne_zero h) (show 1 < B by decide); rcases k with _ | k
  ·have h0 : n / B = 0 := by
    by_cases h0 : n / B = 0
    ·exact h0
    rw [dig_pos h0] at hk; simp at hk
   have : n % B = n := Nat.mod_eq_of_lt ((Nat.div_eq_zero_iff.1 h0).elim (fun h => absurd h (by decide)) id); simpa [this] using h
  have := ih _ hlt k (by simpa using hk); simpa using this
def ln (n : Nat) : Nat := (dig n).length
theorem ln_zero : ln 0 = 0 := by simp [ln, dig_zero]
theorem lt_pow_ln (n : Nat) : n < B ^ ln n := by have := val_lt (dg_dig n); rwa [val_dig] at this
theorem ln_le {n k : Nat} (h : n < B ^ k) : ln n ≤ k := by
 induction k generalizing n with
 | zero =>
  have : n = 0 := by simp at h; omega
  subst this; rw [ln_zero]; exact Nat.le_refl _
 | succ k ih =>
  by_cases h0 : n = 0
  ·subst h0; rw [ln_zero]; omega
  have := ih (n := n / B) (by rw [Nat.div_lt_iff_lt_mul B_pos, ← Nat.pow_succ]; exact h); unfold ln at this ⊢; rw [dig_pos h0]; simp; omega
theorem ln_le_iff {n k : Nat} : ln n ≤ k ↔ n < B ^ k := ⟨fun h => Nat.lt_of_lt_of_le (lt_pow_ln n) (Nat.pow_le_pow_right B_pos h), ln_le⟩
theorem ln_mono {m n : Nat} (h : m ≤ n) : ln m ≤ ln n := ln_le (Nat.lt_of_le_of_lt h (lt_pow_ln n))
theorem ln_eq_zero {n : Nat} : ln n = 0 ↔ n = 0 := ⟨fun h => by have := lt_pow_ln n; rw [h] at this; simp at this; omega, fun h => by rw [h, ln_zero]⟩
theorem pow_le_of_ln {n k : Nat} (h : k < ln n) : B ^ k ≤ n := by
 rcases Nat.lt_or_ge n (B ^ k) with h1 | h1
 ·have := ln_le h1; omega
 exact h1
theorem ln_add (m n : Nat) : ln (m + n) ≤ max (ln m) (ln n) + 1 := by
 apply ln_le; have h1 := lt_pow_ln m; have h2 := lt_pow_ln n; have h3 : B ^ ln m ≤ B ^ max (ln m) (ln n) := Nat.pow_le_pow_right B_pos (Nat.le_max_left _ _); have h4 : B ^ ln n ≤ B ^ max (ln m) (ln n) := Nat.pow_le_pow_right B_pos (Nat.le_max_right _ _); rw [Nat.pow_succ]; have h5 : B ^ max (ln m) (ln n) * 2 ≤ B ^ max (ln m) (ln n) * B := Nat.mul_le_mul_left _ (by decide); omega
theorem ln_mul (m n : Nat) : ln (m * n) ≤ ln m + ln n := by
 apply ln_le; rw [Nat.pow_add]; exact Nat.mul_lt_mul'' (lt_pow_ln m) (lt_pow_ln n)
theorem val_take_succ {xs : List Nat} {k : Nat} (hk : k < xs.length) : val (xs.take (k + 1)) = val (xs.take k) + B ^ k * xs.getD k 0 := by
 rw [List.take_succ_eq_append_getElem hk, val_append, val_single, List.length_take, Nat.min_eq_left (by omega)]; simp [hk]
theorem dig_take {xs : List Nat} (h : Dg xs) {k : Nat} (hk : k ≤ xs.length) (hv : val (xs.take k) = val xs) (hl : ∀ j, j + 1 = k → xs.getD j 0 ≠ 0) : dig (val xs) = xs.take k := by
 rw [← hv]; refine dig_val (dg_take h k) fun j hj => ?_
 rw [List.length_take, Nat.min_eq_left hk] at hj; have := hl j hj; rwa [List.getD_eq_getElem?_getD, List.getElem?_take, if_pos (by omega), ← List.getD_eq_getElem?_getD]
theorem val_take_mod {xs : List Nat} (h : Dg xs) (k : Nat) : val (xs.take k) = val xs % B ^ k := by
 by_cases hk : k ≤ xs.length
 ·have := val_append (xs.take k) (xs.drop k); rw [List.take_append_drop, List.length_take, Nat.min_eq_left hk] at this; rw [this, Nat.add_mul_mod_self_left, Nat.mod_eq_of_lt]; have := val_lt (dg_take h k); rwa [List.length_take, Nat.min_eq_left hk] at this
 rw [List.take_of_length_le (by omega), Nat.mod_eq_of_lt]; exact Nat.lt_of_lt_of_le (val_lt h) (Nat.pow_le_pow_right B_pos (by omega))
theorem val_drop_div {xs : List Nat} (h : Dg xs) (k : Nat) : val (xs.drop k) = val xs / B ^ k := by
 by_cases hk : k ≤ xs.length
 ·have := val_append (xs.take k) (xs.drop k); rw [List.take_append_drop, List.length_take, Nat.min_eq_left hk] at this; have h2 := val_lt (dg_take h k); rw [List.length_take, Nat.min_eq_left hk] at h2; rw [this, Nat.add_mul_div_left _ _ (Nat.pow_pos B_pos), Nat.div_eq_of_lt h2, Nat.zero_add]
 rw [List.drop_eq_nil_of_le (by omega), Nat.div_eq_of_lt]
 ·rfl
 exact Nat.lt_of_lt_of_le (val_lt h) (Nat.pow_le_pow_right B_pos (by omega))
theorem val_split {xs : List Nat} {k : Nat} (hk : k ≤ xs.length) : val xs = val (xs.take k) + B ^ k * val (xs.drop k) := by
 have := val_append (xs.take k) (xs.drop k); rwa [List.take_append_drop, List.length_take, Nat.min_eq_left hk] at this
theorem lt_of_digit {m n k : Nat} (hm : k < ln m) (hn : k < ln n) (hd : (dig m).drop (k + 1) = (dig n).drop (k + 1)) (h : (dig m).getD k 0 < (dig n).getD k 0) : m < n := by
 have e1 := val_split (xs := dig m) (k := k + 1) hm; have e2 := val_split (xs := dig n) (k := k + 1) hn; rw [val_dig, val_take_succ hm] at e1; rw [val_dig, val_take_succ hn, ← hd] at e2; have l1 := val_lt (dg_take (dg_dig m) k); rw [List.length_take, Nat.min_eq_left (by unfold ln at hm; omega)] at l1; have : B ^ k * ((dig m).getD k 0 + 1) ≤ B ^ k * (dig n).getD k 0 := Nat.mul_le_mul_left _ h; rw [Nat.mul_add] at this; omega
theorem drop_pred {m n k : Nat} (hm : k < ln m) (hn : k < ln n) (hd : (dig m).drop (k + 1) = (dig n).drop (k + 1)) (h : (dig m).getD k 0 = (dig n).getD k 0) : (dig m).drop k = (dig n).drop k := by
 rw [List.drop_eq_getElem_cons hm, List.drop_eq_getElem_cons hn, hd]; congr 1
 unfold ln at hm hn; simpa [hm, hn] using h
theorem dig_length (n : Nat) : (dig n).length = ln n := rfl
theorem dig_inj {m n : Nat} (h : dig m = dig n) : m = n := by rw [← val_dig m, ← val_dig n, h]
theorem top_bit {n : Nat} (h : n < 4294967296) : n / 2147483648 = (n.testBit 31).toNat := by
 have e : n.testBit 31 = decide (n / 2 ^ 31 % 2 = 1) := Nat.testBit_eq_decide_div_mod_eq; rw [e]; have h2 : n / 2147483648 < 2 := by omega
 simp only [Nat.reducePow]; rcases Nat.lt_or_ge (n / 2147483648) 1 with h1 | h1
 ·have : n / 2147483648 = 0 := by omega
  rw [this]; rfl
 have : n / 2147483648 = 1 := by omega
 rw [this]; rfl
theorem bit_of {n : Nat} (h : n < 4294967296) : n.testBit 31 = decide (2147483648 ≤ n) := by
 have e : n.testBit 31 = decide (n / 2 ^ 31 % 2 = 1) := Nat.testBit_eq_decide_div_mod_eq; rw [e]; simp only [Nat.reducePow]; apply decide_eq_decide.2; omega
theorem borrow_law {x y c : Nat} (hx : x < 4294967296) (hy : y < 4294967296) (hc : c ≤ 1) :
  (((4294967295 ^^^ x) &&& y) ||| ((4294967295 ^^^ (x ^^^ y)) &&& ((4294967296 + x - y - c) % 4294967296))) / 2147483648 = if x < y + c then 1 else 0 := by
 have hd : (4294967296 + x - y - c) % 4294967296 < 4294967296 := Nat.mod_lt _ (by decide); have hm : (4294967295 : Nat) < 2 ^ 32 := by decide
 have h1 : 4294967295 ^^^ x < 2 ^ 32 := Nat.xor_lt_two_pow hm hx; have h2 : x ^^^ y < 2 ^ 32 := Nat.xor_lt_two_pow hx hy; have h3 : 4294967295 ^^^ (x ^^^ y) < 2 ^ 32 := Nat.xor_lt_two_pow hm h2; have hl : (4294967295 ^^^ x) &&& y < 2 ^ 32 := Nat.and_lt_two_pow _ hy; have hr : (4294967295 ^^^ (x ^^^ y)) &&& ((4294967296 + x - y - c) % 4294967296) < 2 ^ 32 := Nat.and_lt_two_pow _ hd; rw [top_bit (Nat.or_lt_two_pow hl hr), Nat.testBit_or, Nat.testBit_and, Nat.testBit_and, Nat.testBit_xor, Nat.testBit_xor, Nat.testBit_xor, bit_of hx, bit_of hy, bit_of hd, bit_of (n := 4294967295) (by decide)]; by_cases a : 2147483648 ≤ x <;> by_cases b : 2147483648 ≤ y <;> by_cases d : 2147483648 ≤ (4294967296 + x - y - c) % 4294967296 <;> simp [a, b, d] <;> omega
theorem set_at (ds : List Nat) (i x : Nat) (h : i < ds.length) : ds.set i x = ds.take i ++ x :: ds.drop (i + 1) := by
 rw [List.set_eq_take_append_cons_drop, if_pos h]
theorem set_next (ds : List Nat) (z x : Nat) (hz : 0 < z) : (ds ++ List.replicate z 0).set ds.length x = (ds ++ [x]) ++ List.replicate (z - 1) 0 := by
 obtain ⟨z, rfl⟩ : ∃ k, z = k + 1 := ⟨z - 1, by omega⟩; rw [List.set_append_right _ _ (Nat.le_refl _), Nat.sub_self, List.replicate_succ, List.set_cons_zero]; simp
theorem val_snoc (ds : List Nat) (x : Nat) : val (ds ++ [x]) = val ds + B ^ ds.length * x := by rw [val_append, val_single]
theorem getD_zero_of_le {xs : List Nat} {k : Nat} (h : xs.length ≤ k) : xs.getD k 0 = 0 := by
 rw [List.getD_eq_getElem?_getD, List.getElem?_eq_none h]; rfl
theorem val_take_next (xs : List Nat) (k : Nat) : val (xs.take (k + 1)) = val (xs.take k) + B ^ k * xs.getD k 0 := by
 by_cases h : k < xs.length
 ·exact val_take_succ h
 rw [List.take_of_length_le (by omega), List.take_of_length_le (by omega), getD_zero_of_le (by omega)]; simp
theorem add_step {ds : List Nat} {k cy a b X Y : Nat} (hl : ds.length = k) (h : val ds + B ^ k * cy = X + Y) :
  val (ds ++ [(a + b + cy) % 4294967296]) + B ^ (k + 1) * ((a + b + cy) / 4294967296) = (X + B ^ k * a) + (Y + B ^ k * b) := by
 rw [val_snoc, hl, Nat.pow_succ, Nat.mul_assoc]
 have e : B ^ k * ((a + b + cy) % 4294967296) + B ^ k * (B * ((a + b + cy) / 4294967296)) = B ^ k * (a + b + cy) := by
  rw [← Nat.mul_add]; congr 1
  exact Nat.mod_add_div _ _
 have e2 : B ^ k * (a + b + cy) = B ^ k * a + B ^ k * b + B ^ k * cy := by rw [Nat.mul_add, Nat.mul_add]
 omega
theorem get_zero (ds : List Nat) (z k : Nat) (h : ds.length ≤ k) : (ds ++ List.replicate z 0).getD k 0 = 0 := by
 rw [List.getD_eq_getElem?_getD, List.getElem?_append_right h, List.getElem?_replicate]; split <;> rfl
theorem val_take_all {n k : Nat} (h : ln n ≤ k) : val ((dig n).take k) = n := by rw [List.take_of_length_le h, val_dig]
theorem dg_one {x : Nat} (h : x < B) : Dg [x] := by intro y hy; simp at hy; subst hy; exact h
theorem mod_dg (x : Nat) : Dg [x % 4294967296] := dg_one (Nat.mod_lt _ (by decide))
theorem val_set {ds : List Nat} {i : Nat} (h : i < ds.length) (x : Nat) : val (ds.set i x) + B ^ i * ds.getD i 0 = val ds + B ^ i * x := by
 have e1 := val_split (xs := ds) (k := i) (by omega)
 have e2 : val (ds.set i x) = val (ds.take i) + B ^ i * val (x :: ds.drop (i + 1)) := by
  rw [set_at ds i x h, val_append, List.length_take, Nat.min_eq_left (by omega)]
 have e3 : ds.drop i = ds.getD i 0 :: ds.drop (i + 1) := by
  rw [List.drop_eq_getElem_cons h]; simp [h]
 rw [e3] at e1; rw [val, Nat.mul_add] at e1 e2; omega
theorem dg_set {ds : List Nat} (h : Dg ds) (i : Nat) {x : Nat} (hx : x < B) : Dg (ds.set i x) := fun y hy => (List.mem_or_eq_of_mem_set hy).elim (h y) (fun e => e ▸ hx)
theorem dg_zeros (n : Nat) : Dg (List.replicate n 0) := fun x hx => by rw [(List.mem_replicate.1 hx).2]; exact B_pos
theorem val_zeros (n : Nat) : val (List.replicate n 0) = 0 := by
 induction n with
 | zero => rfl
 | succ n ih => rw [List.replicate_succ, val, ih]; rfl
theorem getD_zeros (n k : Nat) : (List.replicate n 0).getD k 0 = 0 := by
 rw [List.getD_eq_getElem?_getD, List.getElem?_replicate]; split <;> rfl
theorem getD_set_ne {ds : List Nat} {i j : Nat} (h : i ≠ j) (x : Nat) : (ds.set i x).getD j 0 = ds.getD j 0 := by
 rw [List.getD_eq_getElem?_getD, List.getD_eq_getElem?_getD, List.getElem?_set_ne h]
theorem mul_fits {x y o c : Nat} (hx : x < 4294967296) (hy : y < 4294967296) (ho : o < 4294967296) (hc : c < 4294967296) : x * y ≤ 18446744065119617025 ∧ x * y + o + c ≤ 18446744073709551615 ∧ (x * y + o + c) / 4294967296 < 4294967296 := by
 have h : x * y ≤ 4294967295 * 4294967295 := Nat.mul_le_mul (by omega) (by omega); omega
theorem mul_step {ds : List Nat} {i j x y c V A : Nat} (hl : i + j < ds.length) (h : val ds + B ^ (i + j) * c = V + B ^ i * (x * A)) :
  val (ds.set (i + j) ((x * y + ds.getD (i + j) 0 + c) % 4294967296)) + B ^ (i + (j + 1)) * ((x * y + ds.getD (i + j) 0 + c) / 4294967296) = V + B ^ i * (x * (A + B ^ j * y)) := by
 have e1 := val_set hl ((x * y + ds.getD (i + j) 0 + c) % 4294967296); generalize ds.getD (i + j) 0 = o at e1 ⊢
 have e2 : B ^ (i + j) * ((x * y + o + c) % 4294967296) + B ^ (i + (j + 1)) * ((x * y + o + c) / 4294967296) = B ^ (i + j) * (x * y + o + c) := by
  rw [show i + (j + 1) = (i + j) + 1 from rfl, Nat.pow_succ, Nat.mul_assoc, ← Nat.mul_add]; congr 1
  exact Nat.mod_add_div _ _
 have e3 : B ^ i * (x * (A + B ^ j * y)) = B ^ i * (x * A) + B ^ (i + j) * (x * y) := by
  rw [Nat.mul_add, Nat.mul_add, Nat.pow_add]; congr 1
  rw [← Nat.mul_assoc x, Nat.mul_comm x (B ^ j), Nat.mul_assoc (B ^ j), ← Nat.mul_assoc (B ^ i)]
 have e4 : B ^ (i + j) * (x * y + o + c) = B ^ (i + j) * (x * y) + B ^ (i + j) * o + B ^ (i + j) * c := by rw [Nat.mul_add, Nat.mul_add]
 omega
end Go.Proofs.YtdfhhceboacdcaaGreatDoor
set_option linter.unusedVariables false
namespace Go.Proofs.YtdfhhceboacdcaaGreatDoor
open Go.RowKit
structure Hd (p : Prop) : Prop where mk :: (out : p)
theorem ret_bool {a b : Bool} (h : a = b) : Ending.returned (.bool a) = .returned (.bool b) := by rw [h]
theorem ret_int {k : IntKind} {a b : Int} (h : a = b) : Ending.returned (.int k a) = .returned (.int k b) := by rw [h]
theorem bcell {W w1 : World} (hb : Below W.heap.size W w1) : (∀ b o, b < W.heap.size → w1.cell? ⟨b, o, none⟩ = W.cell? ⟨b, o, none⟩) ∧ (∀ b o, b < W.heap.size → w1.frozen? ⟨b, o, none⟩ = W.frozen? ⟨b, o, none⟩) :=
 ⟨fun b o h => hb.cell (p := ⟨b, o, none⟩) h, fun b o h => hb.frozen (p := ⟨b, o, none⟩) h⟩
theorem below_alloc {w W : World} (h : Below w.heap.size w W) (o : Obj) : Below w.heap.size w (W.alloc o) := h.alloc h.size o
theorem below_drewN {B : Nat} {w W : World} (h : Below B w W) (n : Nat) : Below B w (W.drewN n) := ⟨h.os, h.tape, h.output, h.size, h.block⟩
theorem below_drew {B : Nat} {w W : World} (h : Below B w W) : Below B w W.drew := ⟨h.os, h.tape, h.output, h.size, h.block⟩
theorem below_then {B : Nat} {w w1 w2 : World} (h : Below B w w1) (hB : B ≤ w1.heap.size) (k : Below w1.heap.size w1 w2) : Below B w w2 :=
 h.trans ⟨k.os, k.tape, k.output, k.size, fun i hi => k.block i (Nat.lt_of_lt_of_le hi hB)⟩
theorem bel_then {w w1 w2 : World} (h : Below w.heap.size w w1) (k : Below w1.heap.size w1 w2) : Below w.heap.size w w2 := below_then h h.size k
def RN (w : World) (A : Option Addr) (xs : List Nat) : Prop :=
 0 < xs.length → ∃ ad : Addr, A = some ad ∧ ∀ j, j < xs.length → w.cell? (ad.add j) = some (.int .u32 ((xs.getD j 0 : Nat) : Int))
theorem block_add (a : Addr) (n : Nat) : (a.add n).block = a.block := by unfold Addr.add; split <;> rfl
theorem add_add (a : Addr) (i j : Nat) : (a.add i).add j = a.add (i + j) := by
 unfold Addr.add; by_cases hi : i = 0 <;> by_cases hj : j = 0 <;> simp [hi, hj, Nat.add_assoc]
theorem RN.nil (w : World) (A : Option Addr) : RN w A [] := fun h => absurd h (by simp)
theorem RN.to {w w' : World} {A : Option Addr} {xs : List Nat} (h : RN w A xs) (hb : Below w.heap.size w w') : RN w' A xs := fun hn => by
 obtain ⟨ad, e, hc⟩ := h hn; exact ⟨ad, e, fun j hj => (hb.cell (World.block_lt_of_cell? w _ (hc j hj))).trans (hc j hj)⟩
theorem RN.take {w : World} {A : Option Addr} {xs : List Nat} (h : RN w A xs) (k : Nat) : RN w A (xs.take k) := fun hn => by
 obtain ⟨ad, e, hc⟩ := h (by rw [List.length_take] at hn; omega); refine ⟨ad, e, fun j hj => ?_⟩; rw [List.length_take] at hj; rw [hc j (by omega), List.getD_eq_getElem?_getD, List.getD_eq_getElem?_getD, List.getElem?_take, if_pos (by omega)]
theorem RN.at_ {w : World} {A : Option Addr} {xs : List Nat} (h : RN w A xs) {k : Nat} (hk : k < xs.length) : ∃ ad, A = some ad ∧ w.cell? (ad.add k) = some (.int .u32 ((xs.getD k 0 : Nat) : Int)) := by
 obtain ⟨ad, e, hc⟩ := h (by omega); exact ⟨ad, e, hc k hk⟩
def NN (w : World) (A : Option Addr) (c n : Nat) : Prop := RN w A (dig n) ∧ ln n ≤ c ∧ c ≤ 9223372036854775807
theorem NN.to {w w' : World} {A : Option Addr} {c n : Nat} (h : NN w A c n) (hb : Below w.heap.size w w') : NN w' A c n := ⟨h.1.to hb, h.2⟩
theorem NN.at_ {w : World} {A : Option Addr} {c n : Nat} (h : NN w A c n) {k : Nat} (hk : k < ln n) : ∃ ad, A = some ad ∧ w.cell? (ad.add k) = some (.int .u32 (((dig n).getD k 0 : Nat) : Int)) := h.1.at_ hk
theorem NN.nil (w : World) (A : Option Addr) (c : Nat) (hc : c ≤ 9223372036854775807) : NN w A c 0 := ⟨by rw [dig_zero]; exact RN.nil _ _, by rw [ln_zero]; omega, hc⟩
def RetN (n : Nat) (w : World) (e : Ending) (w' : World) : Prop := ∃ A c, e = .returned (.slice A (ln n) c) ∧ NN w' A c n ∧ Below w.heap.size w w'
def Blk (w : World) (g : Nat) (t : TypeId) (cs : List Value) : Prop := w.heap[g]? = some (.cells cs.toArray t (0, 0))
section
variable {w w' : World} {g : Nat} {t : TypeId} {cs : List Value}
theorem Blk.lt (h : Blk w g t cs) : g < w.heap.size := by
 rcases Nat.lt_or_ge g w.heap.size with hlt | hge
 ·exact hlt
 unfold Blk at h; rw [Array.getElem?_eq_none hge] at h; cases h
theorem Blk.cell (h : Blk w g t cs) (i : Nat) : w.cell? ⟨g, i, none⟩ = cs[i]? := by
 rw [cell_of_row w g i cs.toArray t (0, 0) h]; simp
theorem Blk.frozen (h : Blk w g t cs) (i : Nat) : w.frozen? ⟨g, i, none⟩ = false := by
 unfold Blk at h; simp [World.frozen?, h]
theorem Blk.drew (h : Blk w g t cs) : Blk w.drew g t cs := h
theorem Blk.drewN (h : Blk w g t cs) (n : Nat) : Blk (w.drewN n) g t cs := h
theorem Blk.alloc (h : Blk w g t cs) (o : Obj) : Blk (w.alloc o) g t cs := (Below.heap_alloc w o g h.lt).trans h
theorem Blk.set_ (h : Blk w g t cs) (i : Nat) (u : Value) : Blk (w.setCell ⟨g, i, none⟩ u) g t (cs.set i u) := by
 unfold Blk at h ⊢; simp [World.setCell, Array.getElem?_modify, h]
theorem Blk.far (h : Blk w g t cs) {p : Addr} (hp : g ≠ p.block) (u : Value) : Blk (w.setCell p u) g t cs := (Below.heap_setCell w p u g hp).trans h
theorem Blk.to (h : Blk w g t cs) (hb : Below w.heap.size w w') : Blk w' g t cs := (hb.block g h.lt).trans h
end
def cells (ds : List Nat) : List Value := ds.map fun x => Value.int .u32 ((x : Nat) : Int)
theorem cells_length (ds : List Nat) : (cells ds).length = ds.length := by simp [cells]
theorem cells_get (ds : List Nat) {i : Nat} (h : i < ds.length) : (cells ds)[i]? = some (.int .u32 ((ds.getD i 0 : Nat) : Int)) := by
 simp [cells, h]
theorem cells_set (ds : List Nat) (i x : Nat) : (cells ds).set i (.int .u32 ((x : Nat) : Int)) = cells (ds.set i x) := by
 simp [cells]
theorem Blk.reads {w : World} {g : Nat} {t : TypeId} {ds : List Nat} (h : Blk w g t (cells ds)) : RN w (some ⟨g, 0, none⟩) ds := fun _ => ⟨_, rfl, fun j hj => by
 have := h.cell j; rw [cells_get ds hj] at this; rw [← this]
 have e : (⟨g, 0, none⟩ : Addr).add j = ⟨g, j, none⟩ := by
  unfold Addr.add; split
  ·next h => rw [h]
  simp
 rw [e]⟩
theorem below_set {B : Nat} {w W : World} (h : Below B w W) {g i : Nat} (hg : B ≤ g) (u : Value) : Below B w (W.setCell ⟨g, i, none⟩ u) := h.setCell (p := ⟨g, i, none⟩) hg u
theorem RN.of_take {w : World} {A : Option Addr} {xs : List Nat} (h : RN w A xs) (hd : Dg xs) : RN w A (dig (val xs)) := by
 have key : ∃ k, k ≤ xs.length ∧ dig (val xs) = xs.take k := by
  have : ∀ m, m ≤ xs.length → val (xs.take m) = val xs → ∃ k, k ≤ xs.length ∧ dig (val xs) = xs.take k := by
   intro m
   induction m with
   | zero => exact fun h0 hv => ⟨0, h0, dig_take hd h0 hv (fun j hj => by omega)⟩
   | succ m ih =>
    intro hm hv; by_cases hz : xs.getD m 0 = 0
    ·refine ih (by omega) ?_; rw [← hv, val_take_succ (by omega), hz]; simp
    exact ⟨m + 1, hm, dig_take hd hm hv (fun j hj => by rw [show j = m from by omega]; exact hz)⟩
  exact this xs.length (Nat.le_refl _) (by rw [List.take_length])
 obtain ⟨k, hk, e⟩ := key; rw [e]; exact h.take k
theorem zeros_cells (n : Nat) : List.replicate n (Value.int .u32 0) = cells (List.replicate n 0) := by simp [cells]
theorem cells_append (a b : List Nat) : cells (a ++ b) = cells a ++ cells b := by simp [cells]
theorem Blk.at_ {w : World} {g : Nat} {t : TypeId} {ds : List Nat} (h : Blk w g t (cells ds)) {i : Nat} (hi : i < ds.length) : w.cell? ⟨g, i, none⟩ = some (.int .u32 ((ds.getD i 0 : Nat) : Int)) := by
 rw [h.cell, cells_get ds hi]
theorem Blk.put {w : World} {g : Nat} {t : TypeId} {ds : List Nat} (h : Blk w g t (cells ds)) (i x : Nat) : Blk (w.setCell ⟨g, i, none⟩ (.int .u32 ((x : Nat) : Int))) g t (cells (ds.set i x)) := by
 rw [← cells_set]; exact h.set_ i _
theorem Tryz.info_word : (Tryz.prog.info? 46).map (fun i => (i.zero, i.size, i.bytes)) = some (some (.int .u32 0), 1, 4) := by kernel_rfl
set_option maxRecDepth 100000 in
theorem make_words (t : TypeId) (ht : Tryz.prog.underlying t = some (.slice 46)) (z : Int) (n : Nat) (hz : z = (n : Int)) (hn : n ≤ 35184372088832) (w : World) :
  (Instr.makeSlice t (.int .i64 z) (.int .i64 z)).run Tryz.prog w = .ok (.slice (some ⟨w.heap.size, 0, none⟩) n n) (w.alloc (.cells (cells (List.replicate n 0)).toArray 46)) := by
 obtain ⟨i0, hi, hz0, hz1, hz2⟩ := info_parts Tryz.info_word; subst hz; have hb : (i0.bytes : Int) * (n : Int) ≤ 281474976710656 := by rw [hz2]; omega
 have hr := run_make (P := Tryz.prog) w t 46 i0 (.int .u32 0) ht hi hz0 .i64 .i64 n n (by omega) (by omega) hb (by omega); simp only [Int.toNat_natCast] at hr; rw [hr]; congr 3
 rw [← zeros_cells, hz1]; apply Array.ext
 ·simp [madeCells]
 intro i h1 h2; simp [madeCells, Value.cells, Nat.mod_one]
def RetZ (z : Int) (w : World) (e : Ending) (w' : World) : Prop := ∃ A c, e = .returned (.agg #[.bool (decide (z < 0)), .slice A (ln z.natAbs) c]) ∧ NN w' A c z.natAbs ∧ Below w.heap.size w w'
theorem NN.set_ {w : World} {A : Option Addr} {c n : Nat} (h : NN w A c n) {p : Addr} {v : Value} (hp : w.cell? p = some v) (hv : ∀ x : Int, v ≠ .int .u32 x) (u : Value) : NN (w.setCell p u) A c n :=
 ⟨fun hn => by
  obtain ⟨ad, e, hc⟩ := h.1 hn
  exact ⟨ad, e, fun j hj => (World.cell?_setCell_other w p _ u (fun e2 => hv _ (Option.some.inj (hp.symm.trans ((congrArg w.cell? e2).trans (hc j hj)))))).trans (hc j hj)⟩, h.2⟩
theorem two_set {w1 : World} {g : Nat} {x0 x1 : Value} (h0 : w1.cell? ⟨g, 0, none⟩ = some x0) (h1 : w1.cell? ⟨g, 1, none⟩ = some x1) (u v : Value) :
  ((w1.setCell ⟨g, 0, none⟩ u).setCell ⟨g, 1, none⟩ v).cell? ⟨g, 0, none⟩ = some u ∧ ((w1.setCell ⟨g, 0, none⟩ u).setCell ⟨g, 1, none⟩ v).cell? ⟨g, 1, none⟩ = some v ∧ (w1.setCell ⟨g, 0, none⟩ u).cell? ⟨g, 1, none⟩ = some x1 := by
 have e1 : (w1.setCell ⟨g, 0, none⟩ u).cell? ⟨g, 1, none⟩ = some x1 := (World.cell?_setCell_other _ _ _ _ (by simp)).trans h1; exact ⟨(World.cell?_setCell_other _ _ _ _ (by simp)).trans (World.cell?_setCell_same _ _ _ h0), World.cell?_setCell_same _ _ _ e1, e1⟩
theorem wp_still_tail {P : Program} {id : Nat} {Q : Exit → Act → World → Prop} {a : Act} {w : World} {l : List Oper} (n : Nat) (hm : P.follows .mixedOrders = true) (hB : Region.lexTailB .any l.toArray n = true)
  (h : ∀ w2, w2 = w.drew → wpStill P l.toArray w2 (fun a' => wpList P l.toArray Q (l.drop n) a' w2) (l.take n) a) : (Code.region id l.toArray true).wp P Q a w := wp_region_still_tail n hm hB (h _ rfl)
theorem blk_third (w : World) (o1 o2 : Obj) (cs : List Value) (t : TypeId) : Blk (((w.alloc o1).alloc o2).alloc (.cells cs.toArray t)) (w.heap.size + 1 + 1) t cs := by
 have h : ((w.alloc o1).alloc o2).heap.size = w.heap.size + 1 + 1 := by simp
 unfold Blk; rw [← h]; exact heap_alloc_new _ _
def RetZE (z err : Int) (w : World) (e : Ending) (w' : World) : Prop := ∃ A c, e = .returned (.tuple #[.agg #[.bool (decide (z < 0)), .slice A (ln z.natAbs) c], .int .i64 err]) ∧ NN w' A c z.natAbs ∧ Below w.heap.size w w'
def fitz (z : Int) : Int := if ln z.natAbs ≤ 256 then z else 0
def fite (z : Int) : Int := if ln z.natAbs ≤ 256 then 0 else 5
theorem blk_second (w : World) (o1 : Obj) (cs : List Value) (t : TypeId) : Blk ((w.alloc o1).alloc (.cells cs.toArray t)) (w.heap.size + 1) t cs := by
 have h : (w.alloc o1).heap.size = w.heap.size + 1 := by simp
 unfold Blk; rw [← h]; exact heap_alloc_new _ _
theorem norm_calls (A : Option Addr) (c : Nat) (xs : List Nat) (w : World) (hr : RN w A xs) (hd : Dg xs) (hc : xs.length ≤ c) (hm : c ≤ 9223372036854775807) :
  Calls Tryz.prog 78 #[.slice A xs.length c] w fun e w' => e = .returned (.slice A (ln (val xs)) c) ∧ w = w' := by
 have HR := Hd.mk hr; have HD := Hd.mk hd; clear hr hd; go_enter Tryz.func78, Tryz.ntmps78
 go_wp2
 go_loop [0] (fun v => ∃ k : Nat, k ≤ xs.length ∧ v = .slice A k c ∧ val (xs.take k) = val xs) (fun v => match v with | .slice _ n _ => n | _ => 0)
 case atStart => exact ⟨xs.length, Nat.le_refl _, rfl, by rw [List.take_length]⟩
 case round =>
  obtain ⟨k, hk, rfl, hv⟩ := hrel; have HV := Hd.mk hv; clear hv; by_cases hk0 : 0 < k
  ·obtain ⟨ad, rfl, hcell⟩ := RN.at_ HR.out (k := k - 1) (by omega); by_cases hz : xs.getD (k - 1) 0 = 0
   ·rw [hz] at hcell; have HZ := Hd.mk hz; clear hz; go_wp2
    go_round
    case rel =>
     refine ⟨k - 1, by omega, rfl, ?_⟩; rw [← HV.out]; have := val_take_succ (xs := xs) (k := k - 1) (by omega); rw [show k - 1 + 1 = k from by omega, HZ.out] at this; rw [this]; simp
    case measure => show k - 1 < k; omega
   have hne : (((xs.getD (k - 1) 0 : Nat) : Int) == 0) = false := by rw [beq_eq_false_iff_ne]; omega
   have HZ := Hd.mk hz; clear hz; generalize hx : ((xs.getD (k - 1) 0 : Nat) : Int) = x at hcell hne; clear hx; go_wp2
   go_ret
   refine ⟨?_, rfl⟩; have := dig_take HD.out hk HV.out (fun j hj => by rw [show j = k - 1 from by omega]; exact HZ.out); unfold ln; rw [this, List.length_take, Nat.min_eq_left hk]; rfl
  have : k = 0 := by omega
  subst this; go_wp2
  go_ret
  refine ⟨?_, rfl⟩; have := HV.out; rw [← this]; simp [val, ln_zero]
theorem zero_calls (A : Option Addr) (n c : Nat) (w : World) (hn : n ≤ 9223372036854775807) :
  Calls Tryz.prog 65 #[.slice A n c] w fun e w' => e = .returned (.bool (decide (n = 0))) ∧ w = w' := by
 go_enter Tryz.func65, Tryz.ntmps65
 go_wp2
 go_ret
 exact ⟨ret_bool (by rw [Bool.eq_iff_iff]; simp), rfl⟩
theorem zero_is (b : Bool) (A : Option Addr) (n c : Nat) (w : World) (hn : n ≤ 9223372036854775807) (hb : decide (n = 0) = b) :
  Calls Tryz.prog 65 #[.slice A n c] w fun e w' => e = .returned (.bool b) ∧ w' = w := (zero_calls A n c w hn).mono fun e w' ⟨a, k⟩ => ⟨by rw [a, hb], k.symm⟩
theorem zero_eq (b : Bool) (A : Option Addr) (n c : Nat) (w : World) (hn : n ≤ 9223372036854775807) (hb : decide (n = 0) = b) :
  Calls Tryz.prog 65 #[.slice A n c] w fun e w' => e = .returned (.bool b) ∧ w = w' := (zero_calls A n c w hn).mono fun e w' ⟨a, k⟩ => ⟨by rw [a, hb], k⟩
theorem small_calls (n : Nat) (hn : n / B < B) (w : World) :
  Calls Tryz.prog 47 #[.int .u64 (n : Int)] w (RetN n w) := by
 unfold B at hn; have hb : Blk (w.alloc (.cells #[.int .u32 ((n : Int) % 4294967296), .int .u32 ((n : Int) / 4294967296)] 46)) w.heap.size 46 (cells [n % 4294967296, n / 4294967296]) := heap_alloc_new w _; have hv : val [n % 4294967296, n / 4294967296] = n := by simp only [val, B]; omega
 have hd : Dg [n % 4294967296, n / 4294967296] := by
  intro x hx; simp at hx; unfold B; omega
 have HC := Hd.mk (norm_calls (some ⟨w.heap.size, 0, none⟩) 2 _ _ hb.reads hd (Nat.le_refl 2) (by omega)); have HR := Hd.mk (RN.of_take hb.reads hd); rw [hv] at HC HR; have HV := Hd.mk hv; clear hb hv hd; go_enter Tryz.func47, Tryz.ntmps47
 go_wp2_with (first | (go_at_call 78; refine HC.out.mono ?_; rintro e w1 ⟨rfl, rfl⟩))
 go_ret
 exact ⟨_, _, rfl, ⟨HR.out, ln_le (by show n < B ^ 2; simp only [B]; omega), by omega⟩, below_alloc (Below.refl _ _) _⟩
def cmpv (m n : Nat) : Int := if m < n then -1 else if m = n then 0 else 1
theorem cmp_calls (A1 : Option Addr) (c1 m : Nat) (A2 : Option Addr) (c2 n : Nat) (w : World) (h1 : NN w A1 c1 m) (h2 : NN w A2 c2 n) :
  Calls Tryz.prog 50 #[.slice A1 (ln m) c1, .slice A2 (ln n) c2] w fun e w' => e = .returned (.int .i64 (cmpv m n)) ∧ ∃ q, w' = w.drewN q := by
 have H1 := Hd.mk h1; have H2 := Hd.mk h2; have hc1 : ln m ≤ 9223372036854775807 := Nat.le_trans h1.2.1 h1.2.2; have hc2 : ln n ≤ 9223372036854775807 := Nat.le_trans h2.2.1 h2.2.2; clear h1 h2; by_cases hlt : ln m < ln n
 ·have hv : cmpv m n = -1 := by
   unfold cmpv; rw [if_pos]; rcases Nat.lt_or_ge m n with h | h
   ·exact h
   have := ln_mono h; omega
  rw [hv]; clear hv; have hne : ((ln m : Int) != (ln n : Int)) = true := by rw [bne_iff_ne]; omega
  go_enter Tryz.func50, Tryz.ntmps50
  go_wp2
  go_ret
  exact ⟨rfl, 0, rfl⟩
 by_cases hgt : ln n < ln m
 ·have hv : cmpv m n = 1 := by
   have hnm : n < m := by
    rcases Nat.lt_or_ge n m with h | h
    ·exact h
    have := ln_mono h; omega
   unfold cmpv; rw [if_neg (by omega), if_neg (by omega)]
  rw [hv]; clear hv; have hne : ((ln m : Int) != (ln n : Int)) = true := by rw [bne_iff_ne]; omega
  go_enter Tryz.func50, Tryz.ntmps50
  go_wp2
  go_ret
  exact ⟨rfl, 0, rfl⟩
 have hl : ln m = ln n := by omega
 have HL := Hd.mk hl; have hne : ((ln m : Int) != (ln n : Int)) = false := by rw [bne_eq_false_iff_eq]; omega
 clear hl; go_enter Tryz.func50, Tryz.ntmps50
 go_wp2
 go_loopw [5] (fun s wr => ∃ k : Nat, k ≤ ln m ∧ s = .int .i64 ((k : Int) - 1) ∧ (dig m).drop k = (dig n).drop k ∧ ∃ q, wr = w.drewN q) (fun s _ => (intOf s + 1).toNat)
 case atStart => exact ⟨ln m, Nat.le_refl _, rfl, by rw [List.drop_eq_nil_of_le (show (dig m).length ≤ ln m from Nat.le_refl _), List.drop_eq_nil_of_le (show (dig n).length ≤ ln m from by have := HL.out; unfold ln at this ⊢; omega)], 0, rfl⟩
 case round =>
  obtain ⟨k, hk, rfl, hd, q, rfl⟩ := hrel; have HDR := Hd.mk hd; clear hd; rcases k with _ | k
  ·go_wp2
   go_ret
   refine ⟨?_, q, rfl⟩; have he : m = n := dig_inj (by simpa using HDR.out); subst he; exact ret_int (by unfold cmpv; simp)
  obtain ⟨a1, rfl, hcell1⟩ := H1.out.at_ (k := k) (by omega); obtain ⟨a2, rfl, hcell2⟩ := H2.out.at_ (k := k) (by have := HL.out; omega); obtain ⟨x, hx⟩ : ∃ x, x = (dig m).getD k 0 := ⟨_, rfl⟩; obtain ⟨y, hy⟩ : ∃ y, y = (dig n).getD k 0 := ⟨_, rfl⟩; rw [← hx] at hcell1; rw [← hy] at hcell2; have HX := Hd.mk hx; have HY := Hd.mk hy; clear hx hy; have e1 : ((k + 1 : Nat) : Int) - 1 = (k : Int) := by omega
  rw [e1]; by_cases hxy : x = y
  ·have hn1 : ((x : Int) != (y : Int)) = false := by rw [bne_eq_false_iff_eq]; omega
   have HXY := Hd.mk hxy; clear hxy; go_wp2_with fail
   go_quiet (fail)
   go_wp2_with fail
   go_roundw
   case rel => exact ⟨k, by omega, rfl, drop_pred (by omega) (by have := HL.out; omega) HDR.out (by rw [← HX.out, ← HY.out, HXY.out]), _, rfl⟩
   case measure => simp [intOf]
  have hn1 : ((x : Int) != (y : Int)) = true := by rw [bne_iff_ne]; omega
  rcases Nat.lt_or_ge x y with hlt2 | hge2
  ·have hv : cmpv m n = -1 := by unfold cmpv; rw [if_pos (lt_of_digit (by omega) (by have := HL.out; omega) HDR.out (by rw [← HX.out, ← HY.out]; exact hlt2))]
   have HV := Hd.mk hv; clear hv hxy; go_wp2_with fail
   go_quiet (fail)
   go_wp2_with fail
   go_quiet (fail)
   go_wp2_with fail
   go_ret
   exact ⟨by rw [HV.out]; rfl, _, by rw [World.drewN_drewN, World.drewN_drewN]⟩
  have hnm := lt_of_digit (m := n) (n := m) (k := k) (by have := HL.out; omega) (by omega) HDR.out.symm (by rw [← HX.out, ← HY.out]; omega); have hv : cmpv m n = 1 := by unfold cmpv; rw [if_neg (by omega), if_neg (by omega)]
  have HV := Hd.mk hv; clear hv hnm; have hge3 : ¬ (x : Int) < (y : Int) := by omega
  clear hxy; go_wp2_with fail
  go_quiet (fail)
  go_wp2_with fail
  go_quiet (fail)
  go_wp2_with fail
  go_ret
  exact ⟨by rw [HV.out]; rfl, _, by rw [World.drewN_drewN, World.drewN_drewN]⟩
theorem add32_calls (x y c : Nat) (hx : x < 4294967296) (hy : y < 4294967296) (hc : c ≤ 1) (w : World) :
  Calls Tryz.prog 79 #[.int .u32 (x : Int), .int .u32 (y : Int), .int .u32 (c : Int)] w fun e w' => e = .returned (.tuple #[.int .u32 (((x + y + c) % 4294967296 : Nat) : Int), .int .u32 (((x + y + c) / 4294967296 : Nat) : Int)]) ∧ w = w' := by
 have e1 : (((x + y + c) % 4294967296 : Nat) : Int) = ((x : Int) + y + c) % 4294967296 := by omega
 have e2 : (((x + y + c) / 4294967296 : Nat) : Int) = ((x : Int) + y + c) / 4294967296 := by omega
 rw [e1, e2]; clear e1 e2; go_enter Tryz.func79, Tryz.ntmps79
 go_wp2
 go_ret2
 exact ⟨rfl, rfl⟩
theorem sub32_calls (x y c : Nat) (hx : x < 4294967296) (hy : y < 4294967296) (hc : c ≤ 1) (w : World) :
  Calls Tryz.prog 98 #[.int .u32 (x : Int), .int .u32 (y : Int), .int .u32 (c : Int)] w fun e w' => e = .returned (.tuple #[.int .u32 (((4294967296 + x - y - c) % 4294967296 : Nat) : Int), .int .u32 ((if x < y + c then 1 else 0 : Nat) : Int)]) ∧ w = w' := by
 have hd : (4294967296 + x - y - c) % 4294967296 < 4294967296 := Nat.mod_lt _ (by decide); have hm : (4294967295 : Nat) < 2 ^ 32 := by decide
 have b1 : bits .xor .u32 IntKind.u32.max (x : Int) = ((4294967295 ^^^ x : Nat) : Int) := u32_xor_nat 4294967295 x (by decide) hx; have b2 : bits .xor .u32 (x : Int) (y : Int) = ((x ^^^ y : Nat) : Int) := u32_xor_nat x y hx hy; have l1 : 4294967295 ^^^ x < 2 ^ 32 := Nat.xor_lt_two_pow hm hx; have l2 : x ^^^ y < 2 ^ 32 := Nat.xor_lt_two_pow hx hy; have l3 : 4294967295 ^^^ (x ^^^ y) < 2 ^ 32 := Nat.xor_lt_two_pow hm l2; have b3 : bits .xor .u32 IntKind.u32.max ((x ^^^ y : Nat) : Int) = ((4294967295 ^^^ (x ^^^ y) : Nat) : Int) := u32_xor_nat 4294967295 (x ^^^ y) (by decide) l2; have b4 : bits .and .u32 ((4294967295 ^^^ x : Nat) : Int) (y : Int) = (((4294967295 ^^^ x) &&& y : Nat) : Int) := u32_and_nat _ y l1 hy; have e1 : ((x : Int) - y - c) % 4294967296 = (((4294967296 + x - y - c) % 4294967296 : Nat) : Int) := by omega
 have b5 : bits .and .u32 ((4294967295 ^^^ (x ^^^ y) : Nat) : Int) (((4294967296 + x - y - c) % 4294967296 : Nat) : Int) = (((4294967295 ^^^ (x ^^^ y)) &&& ((4294967296 + x - y - c) % 4294967296) : Nat) : Int) := u32_and_nat _ _ l3 hd; have b6 : bits .or .u32 (((4294967295 ^^^ x) &&& y : Nat) : Int) (((4294967295 ^^^ (x ^^^ y)) &&& ((4294967296 + x - y - c) % 4294967296) : Nat) : Int) = ((((4294967295 ^^^ x) &&& y) ||| ((4294967295 ^^^ (x ^^^ y)) &&& ((4294967296 + x - y - c) % 4294967296)) : Nat) : Int) := u32_or_nat _ _ (show _ < 2 ^ 32 from Nat.and_lt_two_pow _ hy) (show _ < 2 ^ 32 from Nat.and_lt_two_pow _ hd)
 have fin : bits .or .u32 (bits .and .u32 (bits .xor .u32 IntKind.u32.max (x : Int)) (y : Int)) (bits .and .u32 (bits .xor .u32 IntKind.u32.max (bits .xor .u32 (x : Int) (y : Int))) (((x : Int) - y - c) % 4294967296)) / 2147483648 = ((if x < y + c then 1 else 0 : Nat) : Int) := by
  rw [b1, b2, b3, b4, e1, b5, b6, ← borrow_law hx hy hc]; exact (Int.natCast_ediv _ _).symm
 have FIN := Hd.mk fin; have E1 := Hd.mk e1; clear fin e1 b1 b2 b3 b4 b5 b6 l1 l2 l3 hm hd; obtain ⟨z, hz⟩ : ∃ z : Nat, z = (if x < y + c then 1 else 0 : Nat) := ⟨_, rfl⟩; rw [← hz]; have FIN2 : Hd (bits .or .u32 (bits .and .u32 (bits .xor .u32 IntKind.u32.max (x : Int)) (y : Int)) (bits .and .u32 (bits .xor .u32 IntKind.u32.max (bits .xor .u32 (x : Int) (y : Int))) (((x : Int) - y - c) % 4294967296)) / 2147483648 = (z : Int)) := ⟨by rw [hz]; exact FIN.out⟩; rw [← E1.out]; clear FIN E1 hz; go_enter Tryz.func98, Tryz.ntmps98
 go_wp2
 go_ret2
 refine ⟨?_, rfl⟩; rw [← FIN2.out]; rfl
theorem trim_calls (A : Option Addr) (c : Nat) (xs : List Nat) (w : World) (hr : RN w A xs) (hd : Dg xs) (hc : xs.length ≤ c) (hm : c ≤ 9223372036854775807) :
  Calls Tryz.prog 81 #[.slice A xs.length c] w fun e w' => e = .returned (.slice A (ln (val xs)) c) ∧ w = w' := by
 have HR := Hd.mk hr; have HD := Hd.mk hd; clear hr hd; go_enter Tryz.func81, Tryz.ntmps81
 go_wp2
 go_loop [0] (fun v => ∃ k : Nat, k ≤ xs.length ∧ v = .slice A k c ∧ val (xs.take k) = val xs) (fun v => match v with | .slice _ n _ => n | _ => 0)
 case atStart => exact ⟨xs.length, Nat.le_refl _, rfl, by rw [List.take_length]⟩
 case round =>
  obtain ⟨k, hk, rfl, hv⟩ := hrel; have HV := Hd.mk hv; clear hv; by_cases hk0 : 0 < k
  ·obtain ⟨ad, rfl, hcell⟩ := RN.at_ HR.out (k := k - 1) (by omega); by_cases hz : xs.getD (k - 1) 0 = 0
   ·rw [hz] at hcell; have HZ := Hd.mk hz; clear hz; go_wp2
    go_round
    case rel =>
     refine ⟨k - 1, by omega, rfl, ?_⟩; rw [← HV.out]; have := val_take_succ (xs := xs) (k := k - 1) (by omega); rw [show k - 1 + 1 = k from by omega, HZ.out] at this; rw [this]; simp
    case measure => show k - 1 < k; omega
   have hne : (((xs.getD (k - 1) 0 : Nat) : Int) == 0) = false := by rw [beq_eq_false_iff_ne]; omega
   have HZ := Hd.mk hz; clear hz; generalize hx : ((xs.getD (k - 1) 0 : Nat) : Int) = x at hcell hne; clear hx; go_wp2
   go_ret
   refine ⟨?_, rfl⟩; have := dig_take HD.out hk HV.out (fun j hj => by rw [show j = k - 1 from by omega]; exact HZ.out); unfold ln; rw [this, List.length_take, Nat.min_eq_left hk]; rfl
  have : k = 0 := by omega
  subst this; go_wp2
  go_ret
  refine ⟨?_, rfl⟩; have := HV.out; rw [← this]; simp [val, ln_zero]
theorem order_calls (A1 : Option Addr) (c1 m : Nat) (A2 : Option Addr) (c2 n : Nat) (w : World) (h1 : NN w A1 c1 m) (h2 : NN w A2 c2 n) :
  Calls Tryz.prog 43 #[.slice A1 (ln m) c1, .slice A2 (ln n) c2] w fun e w' => e = .returned (.int .i64 (cmpv m n)) ∧ ∃ q, w' = w.drewN q := by
 have H1 := Hd.mk h1; have H2 := Hd.mk h2; have hc1 : ln m ≤ 9223372036854775807 := Nat.le_trans h1.2.1 h1.2.2; have hc2 : ln n ≤ 9223372036854775807 := Nat.le_trans h2.2.1 h2.2.2; clear h1 h2; by_cases hlt : ln m < ln n
 ·have hv : cmpv m n = -1 := by
   unfold cmpv; rw [if_pos]; rcases Nat.lt_or_ge m n with h | h
   ·exact h
   have := ln_mono h; omega
  rw [hv]; clear hv; have hne : ((ln m : Int) != (ln n : Int)) = true := by rw [bne_iff_ne]; omega
  go_enter Tryz.func43, Tryz.ntmps43
  go_wp2
  go_ret
  exact ⟨rfl, 0, rfl⟩
 by_cases hgt : ln n < ln m
 ·have hv : cmpv m n = 1 := by
   have hnm : n < m := by
    rcases Nat.lt_or_ge n m with h | h
    ·exact h
    have := ln_mono h; omega
   unfold cmpv; rw [if_neg (by omega), if_neg (by omega)]
  rw [hv]; clear hv; have hne : ((ln m : Int) != (ln n : Int)) = true := by rw [bne_iff_ne]; omega
  go_enter Tryz.func43, Tryz.ntmps43
  go_wp2
  go_ret
  exact ⟨rfl, 0, rfl⟩
 have hl : ln m = ln n := by omega
 have HL := Hd.mk hl; have hne : ((ln m : Int) != (ln n : Int)) = false := by rw [bne_eq_false_iff_eq]; omega
 clear hl; go_enter Tryz.func43, Tryz.ntmps43
 go_wp2
 go_loopw [5] (fun s wr => ∃ k : Nat, k ≤ ln m ∧ s = .int .i64 ((k : Int) - 1) ∧ (dig m).drop k = (dig n).drop k ∧ ∃ q, wr = w.drewN q) (fun s _ => (intOf s + 1).toNat)
 case atStart => exact ⟨ln m, Nat.le_refl _, rfl, by rw [List.drop_eq_nil_of_le (show (dig m).length ≤ ln m from Nat.le_refl _), List.drop_eq_nil_of_le (show (dig n).length ≤ ln m from by have := HL.out; unfold ln at this ⊢; omega)], 0, rfl⟩
 case round =>
  obtain ⟨k, hk, rfl, hd, q, rfl⟩ := hrel; have HDR := Hd.mk hd; clear hd; rcases k with _ | k
  ·go_wp2
   go_ret
   refine ⟨?_, q, rfl⟩; have he : m = n := dig_inj (by simpa using HDR.out); subst he; exact ret_int (by unfold cmpv; simp)
  obtain ⟨a1, rfl, hcell1⟩ := H1.out.at_ (k := k) (by omega); obtain ⟨a2, rfl, hcell2⟩ := H2.out.at_ (k := k) (by have := HL.out; omega); obtain ⟨x, hx⟩ : ∃ x, x = (dig m).getD k 0 := ⟨_, rfl⟩; obtain ⟨y, hy⟩ : ∃ y, y = (dig n).getD k 0 := ⟨_, rfl⟩; rw [← hx] at hcell1; rw [← hy] at hcell2; have HX := Hd.mk hx; have HY := Hd.mk hy; clear hx hy; have e1 : ((k + 1 : Nat) : Int) - 1 = (k : Int) := by omega
  rw [e1]; by_cases hxy : x = y
  ·have hn1 : ((x : Int) != (y : Int)) = false := by rw [bne_eq_false_iff_eq]; omega
   have HXY := Hd.mk hxy; clear hxy; go_wp2_with fail
   go_quiet (fail)
   go_wp2_with fail
   go_roundw
   case rel => exact ⟨k, by omega, rfl, drop_pred (by omega) (by have := HL.out; omega) HDR.out (by rw [← HX.out, ← HY.out, HXY.out]), _, rfl⟩
   case measure => simp [intOf]
  have hn1 : ((x : Int) != (y : Int)) = true := by rw [bne_iff_ne]; omega
  rcases Nat.lt_or_ge x y with hlt2 | hge2
  ·have hv : cmpv m n = -1 := by unfold cmpv; rw [if_pos (lt_of_digit (by omega) (by have := HL.out; omega) HDR.out (by rw [← HX.out, ← HY.out]; exact hlt2))]
   have HV := Hd.mk hv; clear hv hxy; go_wp2_with fail
   go_quiet (fail)
   go_wp2_with fail
   go_quiet (fail)
   go_wp2_with fail
   go_ret
   exact ⟨by rw [HV.out]; rfl, _, by rw [World.drewN_drewN, World.drewN_drewN]⟩
  have hnm := lt_of_digit (m := n) (n := m) (k := k) (by have := HL.out; omega) (by omega) HDR.out.symm (by rw [← HX.out, ← HY.out]; omega); have hv : cmpv m n = 1 := by unfold cmpv; rw [if_neg (by omega), if_neg (by omega)]
  have HV := Hd.mk hv; clear hv hnm; have hge3 : ¬ (x : Int) < (y : Int) := by omega
  clear hxy; go_wp2_with fail
  go_quiet (fail)
  go_wp2_with fail
  go_quiet (fail)
  go_wp2_with fail
  go_ret
  exact ⟨by rw [HV.out]; rfl, _, by rw [World.drewN_drewN, World.drewN_drewN]⟩
end Go.Proofs.YtdfhhceboacdcaaGreatDoor
