/- Greatest common divisors: plain facts; the reference's half. -/
import Derived.Test.YtcjcpfafalkceaaZF
set_option linter.unusedVariables false
namespace Go.Proofs.Ytcjcpfafalkceaa
open Go.RowKit
theorem half_digit (n k : Nat) : (dig n).getD k 0 / 2 + (dig n).getD (k + 1) 0 % 2 * 2147483648 = n / 2 / B ^ k % B := by
  rw [dig_getD, dig_getD, Nat.div_div_eq_div_mul n, Nat.mul_comm 2 (B ^ k), ← Nat.div_div_eq_div_mul n, Nat.pow_succ, ← Nat.div_div_eq_div_mul n]
  generalize n / B ^ k = m
  show m % 4294967296 / 2 + m / 4294967296 % 4294967296 % 2 * 2147483648 = m / 2 % 4294967296
  omega
theorem u32_or_sum {a t : Nat} (ha : a < 2147483648) (ht : t < 2) : bits .or .u32 (a : Int) ((t * 2147483648 : Nat) : Int) = ((a + t * 2147483648 : Nat) : Int) := by
  rw [u32_or_nat _ _ (by omega) (by omega)]
  congr 1
  have := Nat.two_pow_add_eq_or_of_lt (i := 31) ha t
  rw [Nat.or_comm, ← show 2 ^ 31 * t = t * 2147483648 from Nat.mul_comm _ _, ← this]
  omega
theorem getD_set_eq (ds : List Nat) (k x : Nat) (h : k < ds.length) : (ds.set k x).getD k 0 = x := by simp [h]
set_option maxHeartbeats 1000000 in
set_option maxRecDepth 100000 in
theorem rhalf_calls (A1 : Option Addr) (c1 n : Nat) (w : World) (h1 : NN w A1 c1 n) (l1 : ln n ≤ 1073741824) :
    Calls Try.prog 138 #[.slice A1 (ln n) c1] w (RetN (n / 2) w) := by
  have HX := Hd.mk h1
  clear h1
  have hmk := fun W => make_words 36 Try.underlying36 (ln n : Int) (ln n) (by omega) (by omega) W
  go_enter Try.func138, Try.ntmps138
  go_wp2
  clear hmk
  go_loopw [10] (fun s10 wr => ∃ (k : Nat) (ds : List Nat), k ≤ ln n ∧ s10 = .int .i64 k ∧ ds.length = k ∧ Dg ds ∧ val ds = n / 2 % B ^ k ∧ Blk wr w.heap.size 72 (cells (ds ++ List.replicate (ln n - k) 0)) ∧ Below w.heap.size w wr) (fun s _ => ln n - (intOf s).toNat)
  case atStart => exact ⟨0, [], Nat.zero_le _, rfl, rfl, (fun x hx => by cases hx), by simp [val, Nat.mod_one], heap_alloc_new w _, below_alloc (Below.refl _ _) _⟩
  case round =>
    obtain ⟨k, ds, hk, rfl, hdl, hdd, hval, hblk, hbel⟩ := hrel
    have HV := Hd.mk hval
    have HK := Hd.mk hblk
    have HL := Hd.mk hdl
    have HB := Hd.mk hbel
    have HDD := Hd.mk hdd
    clear hval hblk hdl hbel hdd
    by_cases hkl : k < ln n
    · obtain ⟨a1, rfl, hcell1⟩ := (HX.out.to HB.out).at_ hkl
      obtain ⟨x, hx⟩ : ∃ x, x = (dig n).getD k 0 := ⟨_, rfl⟩
      have hx1 : x < 4294967296 := by rw [hx]; exact dg_get (dg_dig _) k
      rw [← hx] at hcell1
      obtain ⟨y, hy⟩ : ∃ y, y = (dig n).getD (k + 1) 0 := ⟨_, rfl⟩
      have hy1 : y < 4294967296 := by rw [hy]; exact dg_get (dg_dig _) _
      have hck := HK.out.at_ (i := k) (by rw [List.length_append, HL.out, List.length_replicate]; omega)
      have hfz := HK.out.frozen k
      have hsd := half_digit n k
      rw [← hx, ← hy] at hsd
      obtain ⟨x2, hx2⟩ : ∃ x2, x2 = x / 2 := ⟨_, rfl⟩
      have hx2l : x2 < 2147483648 := by omega
      have hxe : (x : Int) / 2 = (x2 : Int) := by omega
      rw [← hx2] at hsd
      obtain ⟨t, ht⟩ : ∃ t, t = y % 2 := ⟨_, rfl⟩
      have htl : t < 2 := by omega
      rw [← ht] at hsd
      obtain ⟨d, hd⟩ : ∃ d, d = x2 + t * 2147483648 := ⟨_, rfl⟩
      have hor := u32_or_sum hx2l htl
      rw [← hd] at hsd hor
      obtain ⟨tt, htt⟩ : ∃ tt, tt = t * 2147483648 := ⟨_, rfl⟩
      have hsh : (y : Int) * 2147483648 % 4294967296 = (tt : Int) := by rw [htt, ht]; omega
      rw [← htt] at hor
      have hdB : d < B := by rw [hsd]; exact Nat.mod_lt _ (by decide)
      have hput := HK.out.put k x2
      have hset : (ds ++ List.replicate (ln n - k) 0).set k d = (ds ++ [d]) ++ List.replicate (ln n - (k + 1)) 0 := by
        have := set_next ds (ln n - k) d (by omega)
        rw [HL.out] at this
        rw [this, Nat.sub_add_eq]
      have HS := Hd.mk hset
      have hnew : val (ds ++ [d]) = n / 2 % B ^ (k + 1) := by
        rw [val_snoc, HL.out, HV.out, Nat.mod_pow_succ, hsd]
      have HN := Hd.mk hnew
      have HP := Hd.mk hput
      have HY := Hd.mk hy.symm
      by_cases hk1 : k + 1 < ln n
      · obtain ⟨a2, ha2, hcell2⟩ := (HX.out.to HB.out).at_ hk1
        cases ha2
        rw [← hy] at hcell2
        simp only [Addr.add_succ'] at hcell2
        have hk1' : (k : Int) + 1 < (ln n : Int) := by omega
        clear hx hy hx2 hd hsd hput hset hnew ht htt
        go_wp2_with fail
        refine wp_still_tail 12 (by kernel_rfl) (by kernel_rfl) (fun w2 hw2 => ?_)
        simp only [List.take_succ_cons, List.take_zero, List.drop_succ_cons, List.drop_zero]
        have HP3 : Hd (Blk w2 w.heap.size 72 (cells ((ds ++ List.replicate (ln n - k) 0).set k x2))) := ⟨by rw [hw2]; exact HP.out⟩
        have HB3 : Hd (Below w.heap.size w w2) := ⟨by rw [hw2]; exact below_drew (below_set HB.out (Nat.le_refl _) _)⟩
        have k0 := HP3.out.at_ (i := k) (by rw [List.length_set, List.length_append, HL.out, List.length_replicate]; omega)
        rw [getD_set_eq _ _ _ (by rw [List.length_append, HL.out, List.length_replicate]; omega)] at k0
        have k1 : w2.cell? (a1.add (k + 1)) = some (.int .u32 (y : Int)) := by
          obtain ⟨a3, ha3, hc3⟩ := (HX.out.to HB3.out).at_ hk1
          cases ha3
          rw [hc3, HY.out]
        simp only [Addr.add_succ'] at k1
        have f0 := HP3.out.frozen k
        have HP4 : Hd (Blk (w2.setCell ⟨w.heap.size, k, none⟩ (.int .u32 ((d : Nat) : Int))) w.heap.size 72 (cells ((ds ++ [d]) ++ List.replicate (ln n - (k + 1)) 0))) := ⟨by
          have := HP3.out.put k d
          rw [List.set_set, HS.out] at this
          exact this⟩
        clear hw2 hck hfz hcell1 hcell2
        have e9 : IntKind.i64.wrap ((k : Int) + 1) = (k : Int) + 1 := IntWalk.i64_in _ (by omega)
        have e10 : (0 : Int) ≤ (k : Int) + 1 := by omega
        have e11 : ((k : Int) + 1).toNat = k + 1 := by omega
        repeat (first | still_step)
        refine wpStill_nil ?_
        clear e9 e10 e11
        go_wp2_with fail
        go_roundw
        case rel => exact ⟨k + 1, ds ++ [d], by omega, by go_num, by rw [List.length_append, HL.out]; rfl, dg_append HDD.out (dg_one hdB), HN.out, HP4.out, below_set HB3.out (Nat.le_refl _) _⟩
        case measure => simp [intOf]; omega
      · have hk1' : ¬ (k : Int) + 1 < (ln n : Int) := by omega
        have hxd : x2 = d := by
          have : y = 0 := by rw [hy]; exact getD_zero_of_le (by rw [dig_length]; omega)
          rw [hd, ht, this]; omega
        have HP5 := HP.out
        rw [hxd, HS.out] at HP5
        have HP6 := Hd.mk HP5
        have HN6 := Hd.mk HN.out
        clear hx hy hd hsd hput hset hnew ht htt HP HP5 hxe hor hsh
        rw [hxd] at hx2
        have hxe : (x : Int) / 2 = (d : Int) := by omega
        clear hx2 hxd
        go_wp2_with fail
        go_roundw
        case rel => exact ⟨k + 1, ds ++ [d], by omega, by go_num, by rw [List.length_append, HL.out]; rfl, dg_append HDD.out (dg_one hdB), HN6.out, HP6.out, below_set HB.out (Nat.le_refl _) _⟩
        case measure => simp [intOf]; omega
    · have hke : k = ln n := by omega
      subst hke
      have hv2 : val ds = n / 2 := by
        rw [HV.out, Nat.mod_eq_of_lt (Nat.lt_of_le_of_lt (Nat.div_le_self _ _) (lt_pow_ln n))]
      have hblk : Blk wr w.heap.size 72 (cells ds) := by
        have := HK.out
        rwa [Nat.sub_self, List.replicate_zero, List.append_nil] at this
      have hc := trim_calls (some ⟨w.heap.size, 0, none⟩) (ln n) ds _ hblk.reads HDD.out (by have := HL.out; omega) (by omega)
      have hrn := hblk.reads.of_take HDD.out
      rw [HL.out, hv2] at hc
      rw [hv2] at hrn
      have hfin : ln (n / 2) ≤ ln n := ln_mono (Nat.div_le_self _ _)
      have HC := Hd.mk hc
      have HRN := Hd.mk hrn
      clear hv2 hc hrn hblk
      go_wp2_with fail
      refine HC.out.mono ?_
      rintro e w' ⟨rfl, rfl⟩
      go_wp2_with fail
      go_ret
      exact ⟨_, _, rfl, ⟨HRN.out, hfin, by omega⟩, HB.out⟩
end Go.Proofs.Ytcjcpfafalkceaa
