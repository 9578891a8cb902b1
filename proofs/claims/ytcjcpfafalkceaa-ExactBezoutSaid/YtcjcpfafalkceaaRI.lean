/- The reference's natural, and the number of bits. -/
import Derived.Test.YtcjcpfafalkceaaRB
import Derived.Test.YtcjcpfafalkceaaShelf
import Derived.Lib.ItoaNum
set_option linter.unusedVariables false
namespace Go.Proofs.Ytcjcpfafalkceaa
open Go.RowKit
theorem dig_getD (n k : Nat) : (dig n).getD k 0 = n / B ^ k % B := by
  induction k generalizing n with
  | zero =>
    by_cases h : n = 0
    · subst h; rw [dig_zero]; simp
    · rw [dig_pos h]; simp
  | succ k ih =>
    by_cases h : n = 0
    · subst h; rw [dig_zero]; simp
    · rw [dig_pos h]
      show (dig (n / B)).getD k 0 = _
      rw [ih, Nat.div_div_eq_div_mul, Nat.pow_succ, Nat.mul_comm (B ^ k) B]
theorem dig_take_succ {n k : Nat} (h : k < ln n) : (dig n).take (k + 1) = (dig n).take k ++ [n / B ^ k % 4294967296] := by
  rw [List.take_succ_eq_append_getElem h]
  congr 2
  have := dig_getD n k
  simp only [List.getD_eq_getElem?_getD, List.getElem?_eq_getElem (show k < (dig n).length from h)] at this
  exact this
theorem div_pos_iff {n k : Nat} : 0 < n / B ^ k ↔ k < ln n := by
  constructor
  · intro h
    rcases Nat.lt_or_ge k (ln n) with h1 | h1
    · exact h1
    · have := lt_pow_ln n
      have h2 : B ^ ln n ≤ B ^ k := Nat.pow_le_pow_right B_pos h1
      rw [Nat.div_eq_of_lt (by omega)] at h
      omega
  · intro h
    exact Nat.div_pos (pow_le_of_ln h) (Nat.pow_pos B_pos)
set_option maxRecDepth 100000 in
theorem natural_calls (n : Nat) (hn : ln n ≤ 2) (w : World) :
    Calls Try.prog 73 #[.int .u64 (n : Int)] w (RetN n w) := by
  obtain ⟨i0, hi, hz0, hz1, hz2⟩ := info_parts Try.info_word
  have HN2 := Hd.mk hn
  clear hn
  go_enter Try.func73, Try.ntmps73
  go_wp2
  go_loopw [0, 3] (fun s0 s3 wr => ∃ (v : Value) (k : Nat), v = s3 ∧ k ≤ ln n ∧ s0 = .int .u64 ((n / B ^ k : Nat) : Int) ∧ wr.ownsRow w.heap.size 72 1 v k (cells ((dig n).take k)) ∧ Below w.heap.size w wr) (fun s0 _ _ => (intOf s0).toNat)
  case atStart => exact ⟨_, 0, rfl, Nat.zero_le _, by simp, ⟨rfl, .inl ⟨rfl, rfl⟩⟩, Below.refl _ _⟩
  case round =>
    obtain ⟨v, k, rfl, hk, rfl, hown, hbel⟩ := hrel
    have HO := Hd.mk hown
    have HB := Hd.mk hbel
    clear hown hbel
    obtain ⟨q, hq⟩ : ∃ q, q = n / B ^ k := ⟨_, rfl⟩
    rw [← hq]
    have hql : q ≤ 18446744073709551615 := by
      have h1 := lt_pow_ln n
      have h2 : B ^ ln n ≤ B ^ 2 := Nat.pow_le_pow_right B_pos HN2.out
      have h3 : B ^ 2 = 18446744073709551616 := by decide
      have h4 : q ≤ n := by rw [hq]; exact Nat.div_le_self _ _
      omega
    by_cases hlt : k < ln n
    · have hq0 : 0 < q := by rw [hq]; exact div_pos_iff.2 hlt
      obtain ⟨x, hx⟩ : ∃ x : Nat, x = q % 4294967296 := ⟨_, rfl⟩
      have hx' : ((q : Nat) : Int) % 4294967296 = (x : Int) := by rw [hx]; omega
      have hts := dig_take_succ hlt
      rw [← hq, ← hx] at hts
      have HTS := Hd.mk hts
      obtain ⟨q2, hq2⟩ : ∃ q2 : Nat, q2 = q / 4294967296 := ⟨_, rfl⟩
      have hq2' : ((q : Nat) : Int) / 4294967296 = (q2 : Int) := by rw [hq2]; omega
      have hq3 : q2 = n / B ^ (k + 1) := by rw [hq2, hq, Nat.div_div_eq_div_mul, Nat.pow_succ]; rfl
      have HQ3 := Hd.mk hq3
      have hlt2 : q2 < q := by rw [hq2]; exact Nat.div_lt_self hq0 (by decide)
      clear hx hq2 hq3 hts hq
      go_wp2_with (first | (at_builtin; refine wpList_append_any _ rfl (.tmp 8) (.tmp 11) 36 rfl w.heap.size 72 i0 (.int .u32 0) 1 4 Try.underlying36 hi hz0 hz1 hz2 rfl (by decide) v k (cells ((dig n).take k)) rfl (HO.out.alloc _) _ (some ⟨wr.heap.size, 0, none⟩) 1 1 (cells [x]) rfl (reads_new _ _ _) (cells_one _) (by have := HN2.out; unfold maxLen; omega) (by have := HN2.out; omega) (by have := HB.out.size; simp; omega) ?_; intro v1 w1 hown1 hg1 hat1))
      rw [← cells_append] at hown1
      go_roundw
      case rel => exact ⟨_, k + 1, rfl, by omega, by rw [HQ3.out], by rw [HTS.out]; exact hown1, (below_alloc HB.out _).grown hg1 (by have := HB.out.size; simp; omega) (own_ge HO.out)⟩
      case measure => simp [intOf]; omega
    · have hke : k = ln n := by omega
      have hq0 : q = 0 := by
        rcases Nat.eq_zero_or_pos q with h | h
        · exact h
        · rw [hq] at h; exact absurd (div_pos_iff.1 h) hlt
      have hown2 : wr.ownsRow w.heap.size 72 1 v (dig n).length (cells (dig n)) := by
        have := HO.out
        rw [hke, List.take_of_length_le (show (dig n).length ≤ ln n from Nat.le_refl _)] at this
        exact this
      obtain ⟨A3, c3, hv3, hrn, hc3, hcm⟩ := own_slice hown2
      subst hv3
      subst hq0
      have HR := Hd.mk hrn
      clear hrn hown2 hq hke HO
      go_wp2
      go_ret
      exact ⟨_, _, rfl, ⟨HR.out, hc3, hcm⟩, HB.out⟩
/-- How many bits a number has. -/
def nbits (n : Nat) : Nat := if n = 0 then 0 else Nat.log2 n + 1
theorem nbits_le {n k : Nat} : nbits n ≤ k ↔ n < 2 ^ k := by
  unfold nbits
  by_cases h : n = 0
  · subst h
    simp [Nat.pow_pos]
  · rw [if_neg h, ← Nat.log2_lt h]
    omega
theorem nbits_is {n k : Nat} (h1 : n < 2 ^ k) (h2 : 0 < k → 2 ^ (k - 1) ≤ n) : nbits n = k := by
  have a := nbits_le.2 h1
  rcases Nat.eq_zero_or_pos k with h | h
  · omega
  · have b : ¬ nbits n ≤ k - 1 := fun hc => by
      have := nbits_le.1 hc
      have := h2 h
      omega
    omega
theorem nbits_zero : nbits 0 = 0 := rfl
theorem nbits_lo {n : Nat} (h : n ≠ 0) : 2 ^ (nbits n - 1) ≤ n := by
  rcases Nat.lt_or_ge n (2 ^ (nbits n - 1)) with h1 | h1
  · have h2 := nbits_le.2 h1
    have h3 : nbits n ≠ 0 := by unfold nbits; rw [if_neg h]; omega
    omega
  · exact h1
theorem nbits_hi (n : Nat) : n < 2 ^ nbits n := nbits_le.1 (Nat.le_refl _)
theorem nbits_shift {n s : Nat} (h : n / 2 ^ s ≠ 0) : nbits n = s + nbits (n / 2 ^ s) := by
  have hp : 0 < 2 ^ s := Nat.pow_pos (by decide)
  have h1 := nbits_hi (n / 2 ^ s)
  have h2 := nbits_lo h
  have h3 : nbits (n / 2 ^ s) ≠ 0 := by unfold nbits; rw [if_neg h]; omega
  apply nbits_is
  · rw [Nat.pow_add, Nat.mul_comm]
    exact (Nat.div_lt_iff_lt_mul hp).1 h1
  · intro _
    rw [show s + nbits (n / 2 ^ s) - 1 = (nbits (n / 2 ^ s) - 1) + s from by omega, Nat.pow_add]
    exact (Nat.le_div_iff_mul_le hp).1 h2
theorem nbits_half {n : Nat} (h : n ≠ 0) : nbits n = nbits (n / 2) + 1 := by
  by_cases h1 : n / 2 = 0
  · have : n = 1 := by omega
    subst this
    decide
  · have := nbits_shift (n := n) (s := 1) (by simpa using h1)
    simp at this
    omega
theorem pow_B (k : Nat) : B ^ k = 2 ^ (32 * k) := by rw [Nat.pow_mul]; rfl
theorem nbits_top {n : Nat} (h : n ≠ 0) : nbits n = 32 * (ln n - 1) + nbits ((dig n).getD (ln n - 1) 0) := by
  have hp : 0 < ln n := Nat.pos_of_ne_zero (fun h0 => h (ln_eq_zero.1 h0))
  have hl := dig_last n (ln n - 1) (by rw [dig_length]; omega)
  have hd : (dig n).getD (ln n - 1) 0 = n / 2 ^ (32 * (ln n - 1)) := by
    rw [dig_getD, ← pow_B, Nat.mod_eq_of_lt]
    rw [Nat.div_lt_iff_lt_mul (Nat.pow_pos B_pos), Nat.mul_comm, ← Nat.pow_succ]
    have := lt_pow_ln n
    rwa [show (ln n - 1).succ = ln n from by omega]
  rw [hd] at hl ⊢
  exact nbits_shift hl
theorem bitLen_nbits {x : Nat} (h : x < 4294967296) : Lib.bitLen x = nbits x := by
  by_cases h0 : x = 0
  · subst h0; decide
  · obtain ⟨h1, h2, h3⟩ := Lib.bitLenAux_bounds 64 x (Nat.lt_of_lt_of_le h (by decide)) h0
    exact (nbits_is h3 (fun _ => h2)).symm
set_option maxRecDepth 100000 in
theorem bits_calls (A : Option Addr) (c n : Nat) (w : World) (h : NN w A c n) (l1 : ln n ≤ 1073741824) :
    Calls Try.prog 70 #[.slice A (ln n) c] w fun e w' => e = .returned (.int .i64 (nbits n : Int)) ∧ w = w' := by
  by_cases h0 : n = 0
  · subst h0
    clear h
    rw [ln_zero, nbits_zero]
    go_enter Try.func70, Try.ntmps70
    go_wp2_with (first | (go_at_call 89; refine (zero_eq true _ _ _ _ (by omega) rfl).mono ?_; rintro e w' ⟨rfl, rfl⟩))
    go_ret
    exact ⟨rfl, rfl⟩
  · have hlp : ln n ≠ 0 := fun h => h0 (ln_eq_zero.1 h)
    have hd0 : decide (ln n = 0) = false := decide_eq_false hlp
    obtain ⟨ad, rfl, hcell⟩ := h.at_ (k := ln n - 1) (by omega)
    have ht := nbits_top h0
    obtain ⟨y, hy⟩ : ∃ y, y = (dig n).getD (ln n - 1) 0 := ⟨_, rfl⟩
    have hyl : y < 4294967296 := by rw [hy]; exact dg_get (dg_dig n) _
    rw [← hy] at hcell ht
    have hll : Lib.bitLen (y : Int).toNat = nbits y := by rw [Int.toNat_natCast]; exact bitLen_nbits hyl
    have HL := Hd.mk hll
    have HT := Hd.mk ht
    have hbl : nbits y ≤ 32 := nbits_le.2 (by omega)
    clear hy ht hll h
    have hlz : 0 < ln n := by omega
    clear h0 hlp
    go_enter Try.func70, Try.ntmps70
    go_wp2_with (first | (go_at_call 89; refine (zero_eq false _ _ _ _ (by omega) hd0).mono ?_; rintro e w' ⟨rfl, rfl⟩) | (go_at_call 118; refine (Try.bits_Len32 (y : Int) _ (by omega) (by omega)).mono ?_; rintro e w' ⟨rfl, rfl⟩; rw [HL.out]))
    go_ret
    exact ⟨ret_int (by rw [HT.out]; omega), rfl⟩
set_option maxRecDepth 100000 in
theorem rbits_calls (A : Option Addr) (c n : Nat) (w : World) (h : NN w A c n) (l1 : ln n ≤ 1073741824) :
    Calls Try.prog 87 #[.slice A (ln n) c] w fun e w' => e = .returned (.int .i64 (nbits n : Int)) ∧ w = w' := by
  by_cases h0 : n = 0
  · subst h0
    clear h
    rw [ln_zero, nbits_zero]
    go_enter Try.func87, Try.ntmps87
    go_wp2
    go_ret
    exact ⟨rfl, rfl⟩
  · have hlp : ln n ≠ 0 := fun h => h0 (ln_eq_zero.1 h)
    have hne : ((ln n : Int) == 0) = false := by rw [beq_eq_false_iff_ne]; omega
    obtain ⟨ad, rfl, hcell⟩ := h.at_ (k := ln n - 1) (by omega)
    have ht := nbits_top h0
    obtain ⟨y, hy⟩ : ∃ y, y = (dig n).getD (ln n - 1) 0 := ⟨_, rfl⟩
    have hyl : y < 4294967296 := by rw [hy]; exact dg_get (dg_dig n) _
    rw [← hy] at hcell ht
    have HT := Hd.mk ht
    have hbl : nbits y ≤ 32 := nbits_le.2 (by omega)
    have hlz : 0 < ln n := by omega
    clear hy ht h h0 hlp
    go_enter Try.func87, Try.ntmps87
    go_wp2
    go_loop [3, 4] (fun s3 s4 => ∃ (x j : Nat), s4 = .int .u32 (x : Int) ∧ s3 = .int .i64 (j : Int) ∧ j + nbits x = 32 * (ln n - 1) + nbits y ∧ x < 4294967296 ∧ j ≤ 34359738400) (fun _ s4 => (intOf s4).toNat)
    case atStart => exact ⟨y, 32 * (ln n - 1), rfl, by congr 1; omega, rfl, hyl, by omega⟩
    case round =>
      obtain ⟨x, j, rfl, rfl, hj, hx, hjl⟩ := hrel
      have HJ := Hd.mk hj
      clear hj
      by_cases hx0 : x = 0
      · subst hx0
        go_wp2
        go_ret
        exact ⟨ret_int (by have := HJ.out; rw [nbits_zero] at this; rw [HT.out]; omega), rfl⟩
      · have hh := nbits_half hx0
        have hpos : 0 < x := by omega
        have hh2 := HJ.out
        obtain ⟨x2, hx2⟩ : ∃ x2 : Nat, x2 = x / 2 := ⟨_, rfl⟩
        have hx2' : ((x : Nat) : Int) / 2 = (x2 : Int) := by rw [hx2]; omega
        rw [← hx2] at hh
        have hlt : x2 < x := by omega
        have hjb : j ≤ 34359738368 + 31 := by
          have h1 : 1 ≤ nbits x := by omega
          omega
        have HH : Hd (j + 1 + nbits x2 = 32 * (ln n - 1) + nbits y) := ⟨by omega⟩
        clear hh hh2 hx2 hx0
        go_wp2
        go_round
        case rel => exact ⟨x2, j + 1, rfl, by go_num, HH.out, by omega, by omega⟩
        case measure => simp [intOf]; omega
end Go.Proofs.Ytcjcpfafalkceaa
