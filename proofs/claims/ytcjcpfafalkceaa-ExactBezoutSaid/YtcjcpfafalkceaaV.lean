/- Shifts down by less than a word. -/
import Derived.Test.YtcjcpfafalkceaaU
import Derived.Test.YtcjcpfafalkceaaRK
set_option linter.unusedVariables false
namespace Go.Proofs.Ytcjcpfafalkceaa
open Go.RowKit
theorem shr_digit (n k s : Nat) (hs : s < 32) : ((dig n).getD k 0 + (dig n).getD (k + 1) 0 * 4294967296) / 2 ^ s % 4294967296 = n / 2 ^ s / B ^ k % 4294967296 := by
  obtain ⟨h1, h2⟩ := pow_r hs
  rw [dig_getD, dig_getD, Nat.div_div_eq_div_mul n, Nat.mul_comm (2 ^ s) (B ^ k), ← Nat.div_div_eq_div_mul n, Nat.pow_succ, ← Nat.div_div_eq_div_mul n]
  generalize n / B ^ k = m
  show (m % 4294967296 + m / 4294967296 % 4294967296 * 4294967296) / 2 ^ s % 4294967296 = m / 2 ^ s % 4294967296
  have e : m = (m % 4294967296 + m / 4294967296 % 4294967296 * 4294967296) + 2 ^ s * (2 ^ (32 - s) * 4294967296 * (m / 4294967296 / 4294967296)) := by
    rw [← Nat.mul_assoc, ← Nat.mul_assoc, h1]
    omega
  conv => rhs; rw [e]
  rw [Nat.add_mul_div_left _ _ h2, Nat.mul_assoc, Nat.mul_left_comm, Nat.add_mul_mod_self_left]
set_option maxHeartbeats 1000000 in
set_option maxRecDepth 100000 in
theorem shr_calls (A1 : Option Addr) (c1 n s : Nat) (w : World) (h1 : NN w A1 c1 n) (l1 : ln n ≤ 536870912) (hs : s < 32) :
    Calls Try.prog 128 #[.slice A1 (ln n) c1, .int .i64 (s : Int)] w (RetN (n / 2 ^ s) w) := by
  have HX := Hd.mk h1
  have hlc := h1.2.1
  have hcm := h1.2.2
  clear h1
  have hsq : (s : Int) / 32 = 0 := by omega
  have hsr : (s : Int) % 32 = (s : Int) := by omega
  by_cases h0 : n = 0
  · subst h0
    rw [ln_zero, Nat.zero_div]
    go_enter Try.func128, Try.ntmps128
    go_wp2
    go_ret
    exact ⟨none, 0, by rw [ln_zero]; rfl, NN.nil _ _ _ (by omega), Below.refl _ _⟩
  · have hlp : 0 < ln n := ln_pos.2 (by omega)
    have hl0 : ¬ ln n = 0 := by omega
    have hc0 : ¬ c1 = 0 := by omega
    obtain ⟨ad, rfl, _⟩ := HX.out.at_ hlp
    have hmk := fun W => make_words 68 Try.underlying68 (ln n : Int) (ln n) (by omega) (by omega) W
    clear h0
    go_enter Try.func128, Try.ntmps128
    go_wp2
    clear hmk
    go_loopw [22] (fun s22 wr => ∃ (k : Nat) (ds : List Nat), k ≤ ln n ∧ s22 = .int .i64 k ∧ ds.length = k ∧ Dg ds ∧ val ds = n / 2 ^ s % B ^ k ∧ Blk wr w.heap.size 72 (cells (ds ++ List.replicate (ln n - k) 0)) ∧ Below w.heap.size w wr) (fun s _ => ln n - (intOf s).toNat)
    case atStart => exact ⟨0, [], Nat.zero_le _, rfl, rfl, (fun x hx => by cases hx), by simp [val, Nat.mod_one], heap_alloc_new w _, below_alloc (Below.refl _ _) _⟩
    case round =>
      obtain ⟨k, ds, hk, rfl, hdl, hdd, hval, hblk, hbel⟩ := hrel
      have HV := Hd.mk hval
      have HK := Hd.mk hblk
      have HL := Hd.mk hdl
      have HB := Hd.mk hbel
      have HDD := Hd.mk hdd
      clear hval hblk hdl hbel hdd
      by_cases hkl : k < ln n
      · obtain ⟨a1, ha1, hcell1⟩ := (HX.out.to HB.out).at_ hkl
        cases ha1
        obtain ⟨x, hx⟩ : ∃ x, x = (dig n).getD k 0 := ⟨_, rfl⟩
        have hx1 : x < 4294967296 := by rw [hx]; exact dg_get (dg_dig _) k
        rw [← hx] at hcell1
        obtain ⟨y, hy⟩ : ∃ y, y = (dig n).getD (k + 1) 0 := ⟨_, rfl⟩
        have hy1 : y < 4294967296 := by rw [hy]; exact dg_get (dg_dig _) _
        have hck := HK.out.at_ (i := k) (by rw [List.length_append, HL.out, List.length_replicate]; omega)
        have hfz := HK.out.frozen k
        have hsd := shr_digit n k s hs
        rw [← hx, ← hy] at hsd
        obtain ⟨t, ht⟩ : ∃ t, t = x + y * 4294967296 := ⟨_, rfl⟩
        rw [← ht] at hsd
        obtain ⟨t2, ht2⟩ : ∃ t2, t2 = t / 2 ^ s := ⟨_, rfl⟩
        have ht2l : t2 ≤ t := by rw [ht2]; exact Nat.div_le_self _ _
        rw [← ht2] at hsd
        obtain ⟨d, hd⟩ : ∃ d, d = t2 % 4294967296 := ⟨_, rfl⟩
        have hdl : d < B := by rw [hd]; exact Nat.mod_lt _ (by decide)
        have hput := HK.out.put k d
        rw [show k = ds.length from HL.out.symm, set_next ds _ _ (by have := HL.out; omega), HL.out] at hput
        have hnew : val (ds ++ [d]) = n / 2 ^ s % B ^ (k + 1) := by
          rw [val_snoc, HL.out, HV.out, Nat.mod_pow_succ, hd, hsd]
          rfl
        have e0 : bits .or .u64 (x : Int) ((y : Int) * 4294967296) = (t : Int) := by
          rw [or_words x y hx1 hy1, ht, Nat.mul_comm]
        have e1 : (t : Int) / 2 ^ s = (t2 : Int) := by
          rw [ht2]
          simp
        have e2 : (t2 : Int) % 4294967296 = (d : Int) := by omega
        have hyt : (y : Int) * 4294967296 ≤ 18446744073709551615 := by omega
        have htl : t ≤ 18446744073709551615 := by omega
        have HN := Hd.mk hnew
        have HP := Hd.mk hput
        have HXT := Hd.mk (show k + 1 ≥ ln n → t = x by intro h; rw [ht, hy, getD_zero_of_le (by rw [dig_length]; exact h)]; omega)
        by_cases hk1 : k + 1 < ln n
        · obtain ⟨a2, ha2, hcell2⟩ := (HX.out.to HB.out).at_ hk1
          cases ha2
          rw [← hy] at hcell2
          simp only [Addr.add_succ'] at hcell2
          have hk1' : (k : Int) + 1 < (ln n : Int) := by omega
          clear hx hy ht ht2 hd hsd hput hnew
          go_wp2_with fail
          go_roundw
          case rel => exact ⟨k + 1, ds ++ [d], by omega, by go_num, by rw [List.length_append, HL.out]; rfl, dg_append HDD.out (dg_one hdl), HN.out, by rw [Nat.sub_add_eq]; exact HP.out, below_set HB.out (Nat.le_refl _) _⟩
          case measure => simp [intOf]; omega
        · have htx := HXT.out (by omega)
          have hk1' : ¬ (k : Int) + 1 < (ln n : Int) := by omega
          have e1' : (x : Int) / 2 ^ s = (t2 : Int) := by rw [← htx]; exact e1
          clear hx hy ht ht2 hd hsd hput hnew e0 e1 htx HXT
          go_wp2_with fail
          go_roundw
          case rel => exact ⟨k + 1, ds ++ [d], by omega, by go_num, by rw [List.length_append, HL.out]; rfl, dg_append HDD.out (dg_one hdl), HN.out, by rw [Nat.sub_add_eq]; exact HP.out, below_set HB.out (Nat.le_refl _) _⟩
          case measure => simp [intOf]; omega
      · have hke : k = ln n := by omega
        subst hke
        have hv2 : val ds = n / 2 ^ s := by
          rw [HV.out, Nat.mod_eq_of_lt (Nat.lt_of_le_of_lt (Nat.div_le_self _ _) (lt_pow_ln n))]
        have hblk : Blk wr w.heap.size 72 (cells ds) := by
          have := HK.out
          rwa [Nat.sub_self, List.replicate_zero, List.append_nil] at this
        have hc := norm_calls (some ⟨w.heap.size, 0, none⟩) (ln n) ds _ hblk.reads HDD.out (by have := HL.out; omega) (by omega)
        have hrn := hblk.reads.of_take HDD.out
        rw [HL.out, hv2] at hc
        rw [hv2] at hrn
        have hfin : ln (n / 2 ^ s) ≤ ln n := ln_mono (Nat.div_le_self _ _)
        have HC := Hd.mk hc
        have HRN := Hd.mk hrn
        clear hv2 hc hrn hblk
        go_wp2_with (first | (go_at_call 121; refine HC.out.mono ?_; rintro e w' ⟨rfl, rfl⟩))
        go_ret
        exact ⟨_, _, rfl, ⟨HRN.out, hfin, by omega⟩, HB.out⟩
end Go.Proofs.Ytcjcpfafalkceaa
