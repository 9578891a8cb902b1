/- Part 12 of the texts behind this claim. -/
import Derived.Deep.RegionWith
import Derived.BigRegion
import Derived.Test.YtddbmckbankmeaaGreatKb10
import Derived.Test.YtddbmckbankmeaaGreatKb11
set_option linter.unusedVariables false
namespace Go.Proofs.YtddbmckbankmeaaGreat.Ex
open Go.RowKit
set_option maxRecDepth 100000 in
theorem rtimes_calls (A1 : Option Addr) (c1 m : Nat) (A2 : Option Addr) (c2 n : Nat) (w : World) (h1 : NN w A1 c1 m) (h2 : NN w A2 c2 n) (l1 : ln m ≤ 1073741824) (l2 : ln n ≤ 1073741824) :
  Calls Tryz.prog 79 #[.slice A1 (ln m) c1, .slice A2 (ln n) c2] w (RetN (m * n) w) := by
 have HX := Hd.mk h2; have HY := Hd.mk h1; clear h1 h2; have hmk := fun W => make_words 48 Tryz.underlying48 ((ln m : Int) + (ln n : Int)) (ln n + ln m) (by omega) (by omega) W
 go_enter Tryz.func79, Tryz.ntmps79
 go_wp2
 clear hmk; go_loopw [19] (fun s33 wr => ∃ (i : Nat) (ds : List Nat), i ≤ ln m ∧ s33 = .int .i64 i ∧ ds.length = ln n + ln m ∧ Dg ds ∧ val ds = n * val ((dig m).take i) ∧ (∀ t, i + ln n ≤ t → ds.getD t 0 = 0) ∧ Blk wr w.heap.size 123 (cells ds) ∧ Below w.heap.size w wr) (fun s _ => ln m - (intOf s).toNat)
 case atStart => exact ⟨0, List.replicate (ln n + ln m) 0, Nat.zero_le _, rfl, by simp, dg_zeros _, by rw [val_zeros]; simp [val], fun t _ => getD_zeros _ t, heap_alloc_new w _, below_alloc (Below.refl _ _) _⟩
 case round =>
  obtain ⟨i, ds, hi, rfl, hdl, hdd, hval, hzz, hblk, hbel⟩ := hrel; have HV := Hd.mk hval; have HK := Hd.mk hblk; have HL := Hd.mk hdl; have HB := Hd.mk hbel; have HDD := Hd.mk hdd; have HZZ := Hd.mk hzz; clear hval hblk hdl hbel hdd hzz; by_cases hil : i < ln m
  ·obtain ⟨a2, rfl, hcell2⟩ := (HY.out.to HB.out).at_ hil; obtain ⟨x, hx⟩ : ∃ x, x = (dig m).getD i 0 := ⟨_, rfl⟩; have hx1 : x < 4294967296 := by rw [hx]; exact dg_get (dg_dig _) i
   rw [← hx] at hcell2; have HXX := Hd.mk hx; clear hx; obtain ⟨wo, hwo⟩ : ∃ wo : World, wo = wr := ⟨_, rfl⟩; subst hwo; go_wp2_with fail
   go_loopw [8, 26] (fun s8 s40 wr => ∃ (j c : Nat) (es : List Nat), j ≤ ln n ∧ s40 = .int .i64 j ∧ s8 = .int .u64 ((c : Nat) : Int) ∧ c < 4294967296 ∧ es.length = ln n + ln m ∧ Dg es ∧ val es + B ^ (i + j) * c = val ds + B ^ i * (x * val ((dig n).take j)) ∧ (∀ t, i + ln n ≤ t → es.getD t 0 = 0) ∧ Blk wr w.heap.size 123 (cells es) ∧ Below w.heap.size w wr) (fun _ s _ => ln n - (intOf s).toNat)
   case atStart => exact ⟨0, 0, ds, Nat.zero_le _, rfl, rfl, by decide, HL.out, HDD.out, by simp [val], HZZ.out, HK.out, HB.out⟩
   case round =>
    obtain ⟨j, c, es, hj, rfl, rfl, hc, hel, hed, hval, hzz, hblk, hbel⟩ := hrel; have HV2 := Hd.mk hval; have HK2 := Hd.mk hblk; have HL2 := Hd.mk hel; have HB2 := Hd.mk hbel; have HDD2 := Hd.mk hed; have HZZ2 := Hd.mk hzz; clear hval hblk hel hbel hed hzz; by_cases hjl : j < ln n
    ·obtain ⟨a1, rfl, hcell1⟩ := (HX.out.to HB2.out).at_ hjl; obtain ⟨y, hy⟩ : ∃ y, y = (dig n).getD j 0 := ⟨_, rfl⟩; have hy1 : y < 4294967296 := by rw [hy]; exact dg_get (dg_dig _) j
     rw [← hy] at hcell1; have hck := HK2.out.at_ (i := i + j) (by have := HL2.out; omega); have hfz := HK2.out.frozen (i + j); have hstep := mul_step (ds := es) (y := y) (by have := HL2.out; omega) HV2.out; have hput := HK2.out.put (i + j) ((x * y + es.getD (i + j) 0 + c) % 4294967296); have ho : es.getD (i + j) 0 < 4294967296 := dg_get HDD2.out (i + j); obtain ⟨o, ho'⟩ : ∃ o, o = es.getD (i + j) 0 := ⟨_, rfl⟩; rw [← ho'] at hck hstep hput ho; have hfit := mul_fits hx1 hy1 ho hc; obtain ⟨p, hp⟩ : ∃ p, p = x * y := ⟨_, rfl⟩; have hp' : (x : Int) * (y : Int) = (p : Int) := by rw [hp]; exact (Int.natCast_mul x y).symm
     rw [← hp] at hfit hstep hput; obtain ⟨hf1, hf2, hf3⟩ := hfit; have e1 : (((p + o + c) % 4294967296 : Nat) : Int) = ((c : Int) + ((o : Int) + (p : Int))) % 4294967296 := by omega
     have e2 : (((p + o + c) / 4294967296 : Nat) : Int) = ((c : Int) + ((o : Int) + (p : Int))) / 4294967296 := by omega
     have e3 : ((i : Int) + (j : Int)).toNat = i + j := by omega
     have HS := Hd.mk hstep; have HP := Hd.mk hput; have HYY := Hd.mk hy; have E1 := Hd.mk e1; have E2 := Hd.mk e2; clear hstep hput hy ho' hp e1 e2; have hw64 : (c : Int) + ((o : Int) + (p : Int)) ≤ 18446744073709551615 := by omega
     go_wp2_with fail
     go_roundw
     case rel =>
      refine ⟨j + 1, (p + o + c) / 4294967296, es.set (i + j) ((p + o + c) % 4294967296), by omega, by go_num, by rw [E2.out], hf3, by rw [List.length_set]; exact HL2.out, dg_set HDD2.out _ (Nat.mod_lt _ (by decide)), ?_, ?_, ?_, below_set HB2.out (Nat.le_refl _) _⟩
      ·rw [val_take_next, ← HYY.out]; exact HS.out
      ·intro t ht; rw [getD_set_ne (by omega)]; exact HZZ2.out t ht
      rw [← E1.out]; exact HP.out
     case measure => simp [intOf]; omega
    have hje : j = ln n := by omega
    subst hje; have hck := HK2.out.at_ (i := i + ln n) (by have := HL2.out; omega); have hfz := HK2.out.frozen (i + ln n); have hput := HK2.out.put (i + ln n) c; have hz0 := HZZ2.out (i + ln n) (Nat.le_refl _); have hvs := val_set (ds := es) (i := i + ln n) (by have := HL2.out; omega) c; rw [hz0] at hck hvs; have e3 : ((i : Int) + (ln n : Int)).toNat = i + ln n := by omega
    have hnew : val (es.set (i + ln n) c) = n * val ((dig m).take (i + 1)) := by
     have h1 := HV2.out; have h2 := HV.out; rw [val_take_all (Nat.le_refl _)] at h1; rw [val_take_next, ← HXX.out, Nat.mul_add, ← h2, Nat.mul_left_comm n, Nat.mul_comm n x, ← h1]; omega
    have HN := Hd.mk hnew; have HP := Hd.mk hput; clear hnew hput hvs hz0; go_wp2_with fail
    go_roundw
    case rel =>
     refine ⟨i + 1, es.set (i + ln n) c, by omega, by go_num, by rw [List.length_set]; exact HL2.out, dg_set HDD2.out _ hc, HN.out, ?_, HP.out, below_set HB2.out (Nat.le_refl _) _⟩; intro t ht; rw [getD_set_ne (by omega)]; exact HZZ2.out t (by omega)
    case measure => simp [intOf]; omega
  have hie : i = ln m := by omega
  subst hie
  have hv2 : val ds = m * n := by
   rw [HV.out, val_take_all (Nat.le_refl _)]; try exact Nat.mul_comm _ _
  have hc := trim_calls (some ⟨w.heap.size, 0, none⟩) (ln n + ln m) ds _ HK.out.reads HDD.out (by have := HL.out; omega) (by omega); have hrn := HK.out.reads.of_take HDD.out; rw [HL.out, hv2] at hc; rw [hv2] at hrn; have hfin : ln (m * n) ≤ ln n + ln m := Nat.le_trans (ln_mul m n) (by omega); have HC := Hd.mk hc; have HRN := Hd.mk hrn; clear hv2 hc hrn; go_wp2_with (first | (go_at_call 101; refine HC.out.mono ?_; rintro e w' ⟨rfl, rfl⟩))
  go_ret
  exact ⟨_, _, rfl, ⟨HRN.out, hfin, by omega⟩, HB.out⟩
set_option maxRecDepth 100000 in
theorem words_calls (A1 : Option Addr) (c1 n : Nat) (k : Nat) (w : World) (h1 : NN w A1 c1 n) (l1 : ln n ≤ 1073741824) (l2 : k ≤ 1073741824) :
  Calls Tryz.prog 140 #[.slice A1 (ln n) c1, .int .i64 (k : Int)] w (RetN (n * B ^ k) w) := by
 have HX := Hd.mk h1; by_cases h0 : n = 0
 ·subst h0; clear h1; rw [ln_zero, Nat.zero_mul]; go_enter Tryz.func140, Tryz.ntmps140
  go_wp2_with (first | (go_at_call 66; refine (zero_calls _ _ _ _ (by omega)).mono ?_; rintro e w' ⟨rfl, rfl⟩))
  go_ret
  exact ⟨none, 0, by rw [ln_zero]; rfl, NN.nil _ _ _ (by omega), Below.refl _ _⟩
 have hlp : ln n ≠ 0 := fun h => h0 (ln_eq_zero.1 h)
 have hd0 : decide (ln n = 0) = false := decide_eq_false hlp; have hmk := fun W => make_words2 98 Tryz.underlying98 (k : Int) ((k : Int) + (ln n : Int)) k (k + ln n) rfl (by omega) (by omega) (by omega) W
 have hown : (w.alloc (.cells (cells (List.replicate (k + ln n) 0)).toArray 123)).ownsRow w.heap.size 123 1 (.slice (some ⟨w.heap.size, 0, none⟩) k (k + ln n)) k (cells (List.replicate k 0)) := by
  have := own_made (heap_alloc_new w (.cells (cells (List.replicate (k + ln n) 0)).toArray 123)) (c := k + ln n) (n := k) (by simp) (by omega) (by omega) (base := w.heap.size) (Nat.le_refl _); rwa [List.take_replicate, Nat.min_eq_left (by omega)] at this
 have hrd : Reads (w.alloc (.cells (cells (List.replicate (k + ln n) 0)).toArray 123)) (w.alloc (.cells (cells (List.replicate (k + ln n) 0)).toArray 123)).heap.size 1 A1 (ln n) (cells (dig n)) := (h1.1.to (below_alloc (Below.refl _ _) _)).reads; have HO := Hd.mk hown; have HR := Hd.mk hrd; obtain ⟨i0, hi, hz0, hz1, hz2⟩ := info_parts Tryz.info_word; clear h1 hown hrd h0; go_enter Tryz.func140, Tryz.ntmps140
 go_wp2_with (first | (go_at_call 66; refine (zero_calls _ _ _ _ (by omega)).mono ?_; rintro e w' ⟨rfl, rfl⟩) | (at_builtin; refine wpList_append_any _ rfl (.tmp 12) (.tmp 13) 98 rfl w.heap.size 123 i0 (.int .u32 0) 1 4 Tryz.underlying98 hi hz0 hz1 hz2 rfl (by decide) (.slice (some ⟨w.heap.size, 0, none⟩) k (k + ln n)) k (cells (List.replicate k 0)) rfl HO.out _ A1 (ln n) c1 (cells (dig n)) rfl HR.out (cells_one _) (by unfold maxLen; omega) (by omega) (by simp) ?_; intro v1 w1 hown1 hg1 hat1))
 have hl : (List.replicate k 0 ++ dig n).length = k + ln n := by simp [ln]
 have hne : n ≠ 0 := fun h => hlp (ln_eq_zero.2 h)
 rw [← cells_append, ← hl] at hown1; obtain ⟨A, c, rfl, hrn, hc1, hc2⟩ := own_slice hown1; rw [← dig_shift hne] at hrn hc1; rw [← dig_shift hne]; go_ret
 exact ⟨A, c, rfl, ⟨hrn, hc1, hc2⟩, (below_alloc (Below.refl w.heap.size w) _).grown hg1 (by simp) (fun j e => by cases e; exact Nat.le_refl _)⟩
def MulOk (N : Nat) : Prop := ∀ (A1 : Option Addr) (c1 m : Nat) (A2 : Option Addr) (c2 n : Nat) (w : World), NN w A1 c1 m → NN w A2 c2 n → ln m ≤ 268435456 → ln n ≤ 268435456 → ln m + ln n ≤ N →
  Calls Tryz.prog 115 #[.slice A1 (ln m) c1, .slice A2 (ln n) c2] w (RetN (m * n) w)
theorem kara (m n a b c d K : Nat) (hm : m = a + K * b) (hn : n = c + K * d) : a * c + ((a + b) * (c + d) - a * c - b * d) * K + b * d * (K * K) = m * n := by
 have e : (a + b) * (c + d) = a * c + b * d + (a * d + b * c) := by
  rw [Nat.add_mul, Nat.mul_add, Nat.mul_add]; omega
 have e2 : (a + b) * (c + d) - a * c - b * d = a * d + b * c := by omega
 rw [e2, hm, hn, Nat.mul_add (a + K * b), Nat.add_mul a (K * b) c, Nat.add_mul a (K * b) (K * d), Nat.add_mul (a * d)]; have h1 : a * (K * d) = a * d * K := by rw [Nat.mul_comm K d, ← Nat.mul_assoc]
 have h2 : K * b * c = b * c * K := by rw [Nat.mul_assoc, Nat.mul_comm]
 have h3 : K * b * (K * d) = b * d * (K * K) := by
  rw [Nat.mul_comm K b, Nat.mul_assoc b K, ← Nat.mul_assoc K K d, Nat.mul_comm (K * K) d, ← Nat.mul_assoc]
 omega
theorem ln_pow_le (k : Nat) : ln (B ^ k) ≤ k + 1 := ln_le (Nat.pow_lt_pow_right (by decide) (Nat.lt_succ_self k))
theorem kara_le (a b c d : Nat) : a * c ≤ (a + b) * (c + d) ∧ b * d ≤ (a + b) * (c + d) - a * c := by
 have e : (a + b) * (c + d) = a * c + b * d + (a * d + b * c) := by
  rw [Nat.add_mul, Nat.mul_add, Nat.mul_add]; omega
 omega
theorem split_val (m k : Nat) : m = m % B ^ k + B ^ k * (m / B ^ k) := (Nat.mod_add_div m _).symm
theorem norm_cut (A : Option Addr) (c n k : Nat) (w : World) (h : NN w A c n) (hk : k ≤ ln n) (W : World) (hb : Below w.heap.size w W) :
  Calls Tryz.prog 114 #[.slice A k k] W fun e w' => e = .returned (.slice A (ln (n % B ^ k)) k) ∧ w' = W := by
 have hc := h.2.1; have hm := h.2.2; have hl : ((dig n).take k).length = k := by rw [List.length_take]; exact Nat.min_eq_left hk
 have := norm_calls A k ((dig n).take k) W ((h.1.to hb).take k) (dg_take (dg_dig n) k) (by omega) (by omega); rw [hl, val_take_mod (dg_dig n), val_dig] at this; exact this.mono fun e w' ⟨a, b⟩ => ⟨a, b.symm⟩
theorem NN.low {w : World} {A : Option Addr} {c n k : Nat} (h : NN w A c n) (hk : k ≤ ln n) : NN w A k (n % B ^ k) := by
 have hm := h.2.2; have hc := h.2.1; refine ⟨?_, ?_, by omega⟩
 ·have := (h.1.take k).of_take (dg_take (dg_dig n) k); rwa [val_take_mod (dg_dig n), val_dig] at this
 exact ln_le (Nat.mod_lt _ (Nat.pow_pos B_pos))
theorem dig_drop (n k : Nat) (hk : k < ln n) : (dig n).drop k = dig (n / B ^ k) := by
 have h1 : val ((dig n).drop k) = n / B ^ k := by rw [val_drop_div (dg_dig n), val_dig]
 rw [← h1]; symm
 refine dig_val (dg_drop (dg_dig n) k) fun j hj => ?_
 rw [List.length_drop] at hj; have hl : (dig n).length = ln n := rfl; have := dig_last n (k + j) (by omega); rwa [List.getD_eq_getElem?_getD, List.getElem?_drop, ← List.getD_eq_getElem?_getD]
theorem ln_high {n k : Nat} (hk : k < ln n) : ln (n / B ^ k) = ln n - k := by unfold ln; rw [← dig_drop n k hk, List.length_drop]
theorem NN.high {w : World} {A : Option Addr} {c n k : Nat} (h : NN w A c n) (hk : k < ln n) : NN w (if c = k then A else A.map (·.add k)) (c - k) (n / B ^ k) := by
 have hm := h.2.2; have hc := h.2.1; have hl : (dig n).length = ln n := rfl; refine ⟨?_, by rw [ln_high hk]; omega, by omega⟩; have := h.1.drop (k := k) (c := c) (by omega) (by omega); rwa [dig_drop n k hk] at this
set_option maxHeartbeats 4000000 in
set_option maxRecDepth 100000 in
theorem split_calls (N : Nat) (H : MulOk N) (A1 : Option Addr) (c1 m : Nat) (A2 : Option Addr) (c2 n : Nat) (w : World) (h1 : NN w A1 c1 m) (h2 : NN w A2 c2 n) (l1 : ln m ≤ 268435456) (hle : ln n ≤ ln m) (h40 : 40 ≤ ln n) (hN : ln m + ln n ≤ N + 1) :
  Calls Tryz.prog 139 #[.slice A1 (ln m) c1, .slice A2 (ln n) c2] w (RetN (m * n) w) := by
 have HX := Hd.mk h1; have HY := Hd.mk h2; have hc1 := h1.2.1; have hc2 := h2.2.1; have hd1 := h1.2.2; have hd2 := h2.2.2; obtain ⟨k, hk⟩ : ∃ k, k = ln m / 2 := ⟨_, rfl⟩; have hki : ((ln m : Int)) / 2 = (k : Int) := by omega
 have hk2 : 2 * k ≤ ln m := by omega
 have hk3 : ln m ≤ 2 * k + 1 := by omega
 have hk20 : 20 ≤ k := by omega
 have hkc : (k : Int) ≤ (c1 : Int) := by omega
 have hkm : (k : Int) ≤ (ln m : Int) := by omega
 have hk0 : (0 : Int) ≤ (k : Int) := by omega
 obtain ⟨a, ha⟩ : ∃ a, a = m % B ^ k := ⟨_, rfl⟩; obtain ⟨b, hb⟩ : ∃ b, b = m / B ^ k := ⟨_, rfl⟩; have hm : m = a + B ^ k * b := by rw [ha, hb]; exact split_val m k
 have lma : ln a ≤ k := by rw [ha]; exact ln_le (Nat.mod_lt _ (Nat.pow_pos B_pos))
 have HC1 := Hd.mk (norm_cut A1 c1 m k w HX.out (by omega)); rw [← ha] at HC1; have HAH := HX.out.high (k := k) (by omega); rw [← hb] at HAH; have hlah := ln_high (n := m) (k := k) (by omega); rw [← hb] at hlah; rw [if_neg (by omega)] at HAH; obtain ⟨A3, hA3⟩ : ∃ A3, A3 = A1.map (·.add k) := ⟨_, rfl⟩; have hA3' : A1.map (·.add k) = A3 := hA3.symm; rw [hA3'] at HAH; have HAHH := Hd.mk HAH; clear HAH; have hal := HX.out.low (k := k) (by omega); rw [← ha] at hal; have HAL := Hd.mk hal; have HM := Hd.mk hm; clear h1 h2 hk hA3 hal ha hb hm; have HLAH := Hd.mk hlah; clear hlah; go_enter Tryz.func139, Tryz.ntmps139
 go_wp2_with fail
 go_quiet ((go_at_call 114; exact Calls.quiet_of_same (HC1.out _ (below_drewN (Below.refl _ _) _))))
 by_cases hkn : k < ln n
 ·obtain ⟨nl, hnl⟩ : ∃ x, x = n % B ^ k := ⟨_, rfl⟩; obtain ⟨nh, hnh⟩ : ∃ x, x = n / B ^ k := ⟨_, rfl⟩; have HC2 := Hd.mk (norm_cut A2 c2 n k w HY.out (by omega)); have HBH := HY.out.high hkn; have hlbh := ln_high hkn; have hbl := HY.out.low (k := k) (by omega); have hn := split_val n k; have lnl : ln (n % B ^ k) ≤ k := ln_le (Nat.mod_lt _ (Nat.pow_pos B_pos)); have lnh : ln (n / B ^ k) ≤ ln n - k := Nat.le_of_eq hlbh; rw [← hnl] at HC2 hn lnl hbl; rw [← hnh] at HBH hlbh hn lnh; have HN := Hd.mk hn; clear hn hnl hnh; rw [if_neg (by omega)] at HBH; obtain ⟨A4, hA4⟩ : ∃ A4, A4 = A2.map (·.add k) := ⟨_, rfl⟩; have hA4' : A2.map (·.add k) = A4 := hA4.symm; rw [hA4'] at HBH; have HBHH := Hd.mk HBH; have HBL := Hd.mk hbl; have HLBH := Hd.mk hlbh; have hkn2 : (k : Int) < (ln n : Int) := by omega
  have hkn3 : (k : Int) ≤ (c2 : Int) := by omega
  clear hA4 HBH hlbh hbl; go_wp2_with (first | (go_at_call 114; refine (HC2.out _ (below_drewN (Below.refl _ _) _)).mono ?_; rintro e w' ⟨rfl, rfl⟩))
  have hn := HN.out; have lml := lma; have lmh : ln b ≤ ln m - k := Nat.le_of_eq HLAH.out; have ls1 := ln_add a b; have ls2 := ln_add (nl) (nh); have hkar := kara_le a b (nl) (nh); have hfin := kara m n a b (nl) (nh) (B ^ k) HM.out hn; have lp1 := ln_mul a (nl); have lp2 := ln_mul b (nh); have lp3 := ln_mul (a + b) (nl + nh); have ld1 := ln_mono (Nat.sub_le ((a + b) * (nl + nh)) (a * (nl))); have ld2 := ln_mono (Nat.sub_le ((a + b) * (nl + nh) - a * (nl)) (b * (nh))); have HFIN := Hd.mk hfin; have HKAR := Hd.mk hkar; have lw1 := ln_mul ((a + b) * (nl + nh) - a * (nl) - b * (nh)) (B ^ k); have lw0 := ln_pow_le k; have lw2 := ln_mul (b * (nh)) (B ^ (2 * k)); have lw3 := ln_pow_le (2 * k); have ls4 := ln_add (a * (nl)) (((a + b) * (nl + nh) - a * (nl) - b * (nh)) * B ^ k); clear hn hfin hkar; have HB0 := Hd.mk (below_alloc (below_drewN (Below.refl w.heap.size w) nq) (.cells #[] 123)); refine (H A1 k a A2 (k) (nl) _ (HAL.out.to HB0.out) (HBL.out.to HB0.out) (by omega) (by omega) (by omega)).mono ?_; rintro e w1 ⟨Aa, ca, rfl, hlow, hb1⟩; have HLOW := Hd.mk hlow; have HB1 := Hd.mk (bel_then HB0.out hb1); clear hlow hb1; go_wp2_with fail
  refine (show Calls Tryz.prog _ #[.slice A3 (ln m - k) (c1 - k), .slice A4 (ln n - k) (c2 - k)] w1 _ from by have c := H A3 (c1 - k) b A4 (c2 - k) (nh) w1 (HAHH.out.to HB1.out) (HBHH.out.to HB1.out) (by omega) (by omega) (by omega); rw [HLAH.out, HLBH.out] at c; exact c).mono ?_; rintro e w2 ⟨Ab, cb, rfl, hhigh, hb2⟩; have HHIGH := Hd.mk hhigh; have HLOW2 := Hd.mk (HLOW.out.to hb2); have HB2 := Hd.mk (bel_then HB1.out hb2); clear hhigh hb2; go_wp2_with fail
  refine (show Calls Tryz.prog _ #[.slice A1 (ln a) k, .slice A3 (ln m - k) (c1 - k)] w2 _ from by have c := add_calls A1 k a A3 (c1 - k) b w2 (HAL.out.to HB2.out) (HAHH.out.to HB2.out) (by omega) (by omega); rw [HLAH.out] at c; exact c).mono ?_; rintro e w3 ⟨Ac, cc, rfl, hs1, hb3⟩; have HS1 := Hd.mk hs1; have HB3 := Hd.mk (bel_then HB2.out hb3); have HBS := Hd.mk hb3; clear hs1 hb3; go_wp2_with fail
  refine (show Calls Tryz.prog _ #[.slice A2 (ln nl) (k), .slice A4 (ln n - k) (c2 - k)] w3 _ from by have c := add_calls A2 (k) (nl) A4 (c2 - k) (nh) w3 (HBL.out.to HB3.out) (HBHH.out.to HB3.out) (by omega) (by omega); rw [HLBH.out] at c; exact c).mono ?_; rintro e w4 ⟨Ad, cd, rfl, hs2, hb4⟩; have HS2 := Hd.mk hs2; have HB4 := Hd.mk (bel_then HB3.out hb4); have HBS4 := Hd.mk (bel_then HBS.out hb4); have HS1 := Hd.mk (HS1.out.to hb4); clear hs2 hb4; go_wp2_with fail
  refine (H Ac cc (a + b) Ad cd (nl + nh) _ HS1.out HS2.out (by omega) (by omega) (by omega)).mono ?_; rintro e w5 ⟨Ae, ce, rfl, hmid, hb5⟩; have HMID := Hd.mk hmid; have HB5 := Hd.mk (bel_then HB4.out hb5); have HBS5 := Hd.mk (bel_then HBS4.out hb5); clear hmid hb5; go_wp2_with fail
  refine (sub_calls Ae ce ((a + b) * (nl + nh)) Aa ca (a * (nl)) _ HMID.out (HLOW2.out.to HBS5.out) HKAR.out.1 (by omega)).mono ?_; rintro e w6 ⟨Af, cf, rfl, hm1, hb6⟩; have HM1 := Hd.mk hm1; have HB6 := Hd.mk (bel_then HB5.out hb6); have HBS6 := Hd.mk (bel_then HBS5.out hb6); clear hm1 hb6; go_wp2_with fail
  refine (sub_calls Af cf ((a + b) * (nl + nh) - a * (nl)) Ab cb (b * (nh)) _ HM1.out (HHIGH.out.to HBS6.out) HKAR.out.2 (by omega)).mono ?_; rintro e w7 ⟨Ag, cg, rfl, hm2, hb7⟩; have HM2 := Hd.mk hm2; have HB7 := Hd.mk (bel_then HB6.out hb7); have HBS7 := Hd.mk (bel_then HBS6.out hb7); clear hm2 hb7; go_wp2_with fail
  refine (words_calls Ag cg ((a + b) * (nl + nh) - a * (nl) - b * (nh)) k _ HM2.out (by omega) (by omega)).mono ?_; rintro e w8 ⟨Ah, ch, rfl, hw1, hb8⟩; have HW1 := Hd.mk hw1; have HB8 := Hd.mk (bel_then HB7.out hb8); have HBS8 := Hd.mk (bel_then HBS7.out hb8); clear hw1 hb8; go_wp2_with fail
  refine (add_calls Aa ca (a * (nl)) Ah ch (((a + b) * (nl + nh) - a * (nl) - b * (nh)) * B ^ k) _ (HLOW2.out.to HBS8.out) HW1.out (by omega) (by omega)).mono ?_; rintro e w9 ⟨Ai, ci, rfl, hs3, hb9⟩; have HS3 := Hd.mk hs3; have HB9 := Hd.mk (bel_then HB8.out hb9); have HBS9 := Hd.mk (bel_then HBS8.out hb9); clear hs3 hb9; go_wp2_with fail
  refine (show Calls Tryz.prog _ #[.slice Ab (ln (b * (nh))) cb, .int .i64 (2 * (k : Int))] w9 _ from by have c := words_calls Ab cb (b * (nh)) (2 * k) w9 (HHIGH.out.to HBS9.out) (by omega) (by omega); rw [show ((2 * k : Nat) : Int) = 2 * (k : Int) from by omega] at c; exact c).mono ?_; rintro e w10 ⟨Aj, cj, rfl, hw2, hb10⟩; have HW2 := Hd.mk hw2; have HB10 := Hd.mk (bel_then HB9.out hb10); have HS3 := Hd.mk (HS3.out.to hb10); clear hw2 hb10; go_wp2_with fail
  refine (add_calls Ai ci (a * (nl) + ((a + b) * (nl + nh) - a * (nl) - b * (nh)) * B ^ k) Aj cj (b * (nh) * B ^ (2 * k)) _ HS3.out HW2.out (by omega) (by omega)).mono ?_; rintro e w11 ⟨Al, cl, rfl, hs5, hb11⟩; have hpow : B ^ (2 * k) = B ^ k * B ^ k := by rw [Nat.two_mul, Nat.pow_add]
  have hend := HFIN.out; rw [← hpow] at hend; rw [hend] at hs5; have HS5 := Hd.mk hs5; have HB11 := Hd.mk (bel_then HB10.out hb11); have HEND := Hd.mk hend; clear hs5 hb11 hpow hend; go_wp2_with fail
  go_ret
  exact ⟨Al, cl, by rw [HEND.out]; rfl, HS5.out, HB11.out⟩
 by_cases hke : k ≤ ln n
 ·obtain ⟨nh, hnh⟩ : ∃ z : Nat, z = 0 := ⟨0, rfl⟩; have HN0 := Hd.mk (show n = n + B ^ k * nh by rw [hnh]; simp); have hc := norm_cut A2 c2 n k w HY.out hke; have hmod : n % B ^ k = n := Nat.mod_eq_of_lt (Nat.lt_of_lt_of_le (lt_pow_ln n) (Nat.pow_le_pow_right B_pos (by omega))); rw [hmod] at hc; have HC2 := Hd.mk hc; have HBL := Hd.mk (show NN w A2 k n from ⟨HY.out.1, by omega, by omega⟩); have hkn2 : ¬ (k : Int) < (ln n : Int) := by omega
  have hkn4 : (k : Int) ≤ (ln n : Int) := by omega
  have hkn3 : (k : Int) ≤ (c2 : Int) := by omega
  have HBHH := Hd.mk (show NN w (some ⟨w.heap.size, 0, none⟩) 0 nh from hnh ▸ NN.nil w (some ⟨w.heap.size, 0, none⟩) 0 (by omega)); have HLBH := Hd.mk (show ln nh = 0 from hnh ▸ ln_zero); clear hmod hc hnh; go_wp2_with (first | (go_at_call 114; refine (HC2.out _ (below_drewN (Below.refl _ _) _)).mono ?_; rintro e w' ⟨rfl, rfl⟩))
  have hn : n = n + B ^ k * nh := HN0.out; have lnl : ln n ≤ k := by omega
  have lnh : ln nh ≤ ln n - k := by rw [HLBH.out]; omega
  have lml := lma; have lmh : ln b ≤ ln m - k := Nat.le_of_eq HLAH.out; have ls1 := ln_add a b; have ls2 := ln_add (n) (nh); have hkar := kara_le a b (n) (nh); have hfin := kara m n a b (n) (nh) (B ^ k) HM.out hn; have lp1 := ln_mul a (n); have lp2 := ln_mul b (nh); have lp3 := ln_mul (a + b) (n + nh); have ld1 := ln_mono (Nat.sub_le ((a + b) * (n + nh)) (a * (n))); have ld2 := ln_mono (Nat.sub_le ((a + b) * (n + nh) - a * (n)) (b * (nh))); have HFIN := Hd.mk hfin; have HKAR := Hd.mk hkar; have lw1 := ln_mul ((a + b) * (n + nh) - a * (n) - b * (nh)) (B ^ k); have lw0 := ln_pow_le k; have lw2 := ln_mul (b * (nh)) (B ^ (2 * k)); have lw3 := ln_pow_le (2 * k); have ls4 := ln_add (a * (n)) (((a + b) * (n + nh) - a * (n) - b * (nh)) * B ^ k); clear hn hfin hkar; have HB0 := Hd.mk (below_alloc (below_drewN (Below.refl w.heap.size w) nq) (.cells #[] 123)); refine (H A1 k a A2 (k) (n) _ (HAL.out.to HB0.out) (HBL.out.to HB0.out) (by omega) (by omega) (by omega)).mono ?_; rintro e w1 ⟨Aa, ca, rfl, hlow, hb1⟩; have HLOW := Hd.mk hlow; have HB1 := Hd.mk (bel_then HB0.out hb1); clear hlow hb1; go_wp2_with fail
  refine (show Calls Tryz.prog _ #[.slice A3 (ln m - k) (c1 - k), .slice (some ⟨w.heap.size, 0, none⟩) (0) (0)] w1 _ from by have c := H A3 (c1 - k) b (some ⟨w.heap.size, 0, none⟩) (0) (nh) w1 (HAHH.out.to HB1.out) (HBHH.out.to HB1.out) (by omega) (by omega) (by omega); rw [HLAH.out, HLBH.out] at c; exact c).mono ?_; rintro e w2 ⟨Ab, cb, rfl, hhigh, hb2⟩; have HHIGH := Hd.mk hhigh; have HLOW2 := Hd.mk (HLOW.out.to hb2); have HB2 := Hd.mk (bel_then HB1.out hb2); clear hhigh hb2; go_wp2_with fail
  refine (show Calls Tryz.prog _ #[.slice A1 (ln a) k, .slice A3 (ln m - k) (c1 - k)] w2 _ from by have c := add_calls A1 k a A3 (c1 - k) b w2 (HAL.out.to HB2.out) (HAHH.out.to HB2.out) (by omega) (by omega); rw [HLAH.out] at c; exact c).mono ?_; rintro e w3 ⟨Ac, cc, rfl, hs1, hb3⟩; have HS1 := Hd.mk hs1; have HB3 := Hd.mk (bel_then HB2.out hb3); have HBS := Hd.mk hb3; clear hs1 hb3; go_wp2_with fail
  refine (show Calls Tryz.prog _ #[.slice A2 (ln n) (k), .slice (some ⟨w.heap.size, 0, none⟩) (0) (0)] w3 _ from by have c := add_calls A2 (k) (n) (some ⟨w.heap.size, 0, none⟩) (0) (nh) w3 (HBL.out.to HB3.out) (HBHH.out.to HB3.out) (by omega) (by omega); rw [HLBH.out] at c; exact c).mono ?_; rintro e w4 ⟨Ad, cd, rfl, hs2, hb4⟩; have HS2 := Hd.mk hs2; have HB4 := Hd.mk (bel_then HB3.out hb4); have HBS4 := Hd.mk (bel_then HBS.out hb4); have HS1 := Hd.mk (HS1.out.to hb4); clear hs2 hb4; go_wp2_with fail
  refine (H Ac cc (a + b) Ad cd (n + nh) _ HS1.out HS2.out (by omega) (by omega) (by omega)).mono ?_; rintro e w5 ⟨Ae, ce, rfl, hmid, hb5⟩; have HMID := Hd.mk hmid; have HB5 := Hd.mk (bel_then HB4.out hb5); have HBS5 := Hd.mk (bel_then HBS4.out hb5); clear hmid hb5; go_wp2_with fail
  refine (sub_calls Ae ce ((a + b) * (n + nh)) Aa ca (a * (n)) _ HMID.out (HLOW2.out.to HBS5.out) HKAR.out.1 (by omega)).mono ?_; rintro e w6 ⟨Af, cf, rfl, hm1, hb6⟩; have HM1 := Hd.mk hm1; have HB6 := Hd.mk (bel_then HB5.out hb6); have HBS6 := Hd.mk (bel_then HBS5.out hb6); clear hm1 hb6; go_wp2_with fail
  refine (sub_calls Af cf ((a + b) * (n + nh) - a * (n)) Ab cb (b * (nh)) _ HM1.out (HHIGH.out.to HBS6.out) HKAR.out.2 (by omega)).mono ?_; rintro e w7 ⟨Ag, cg, rfl, hm2, hb7⟩; have HM2 := Hd.mk hm2; have HB7 := Hd.mk (bel_then HB6.out hb7); have HBS7 := Hd.mk (bel_then HBS6.out hb7); clear hm2 hb7; go_wp2_with fail
  refine (words_calls Ag cg ((a + b) * (n + nh) - a * (n) - b * (nh)) k _ HM2.out (by omega) (by omega)).mono ?_; rintro e w8 ⟨Ah, ch, rfl, hw1, hb8⟩; have HW1 := Hd.mk hw1; have HB8 := Hd.mk (bel_then HB7.out hb8); have HBS8 := Hd.mk (bel_then HBS7.out hb8); clear hw1 hb8; go_wp2_with fail
  refine (add_calls Aa ca (a * (n)) Ah ch (((a + b) * (n + nh) - a * (n) - b * (nh)) * B ^ k) _ (HLOW2.out.to HBS8.out) HW1.out (by omega) (by omega)).mono ?_; rintro e w9 ⟨Ai, ci, rfl, hs3, hb9⟩; have HS3 := Hd.mk hs3; have HB9 := Hd.mk (bel_then HB8.out hb9); have HBS9 := Hd.mk (bel_then HBS8.out hb9); clear hs3 hb9; go_wp2_with fail
  refine (show Calls Tryz.prog _ #[.slice Ab (ln (b * (nh))) cb, .int .i64 (2 * (k : Int))] w9 _ from by have c := words_calls Ab cb (b * (nh)) (2 * k) w9 (HHIGH.out.to HBS9.out) (by omega) (by omega); rw [show ((2 * k : Nat) : Int) = 2 * (k : Int) from by omega] at c; exact c).mono ?_; rintro e w10 ⟨Aj, cj, rfl, hw2, hb10⟩; have HW2 := Hd.mk hw2; have HB10 := Hd.mk (bel_then HB9.out hb10); have HS3 := Hd.mk (HS3.out.to hb10); clear hw2 hb10; go_wp2_with fail
  refine (add_calls Ai ci (a * (n) + ((a + b) * (n + nh) - a * (n) - b * (nh)) * B ^ k) Aj cj (b * (nh) * B ^ (2 * k)) _ HS3.out HW2.out (by omega) (by omega)).mono ?_; rintro e w11 ⟨Al, cl, rfl, hs5, hb11⟩; have hpow : B ^ (2 * k) = B ^ k * B ^ k := by rw [Nat.two_mul, Nat.pow_add]
  have hend := HFIN.out; rw [← hpow] at hend; rw [hend] at hs5; have HS5 := Hd.mk hs5; have HB11 := Hd.mk (bel_then HB10.out hb11); have HEND := Hd.mk hend; clear hs5 hb11 hpow hend; go_wp2_with fail
  go_ret
  exact ⟨Al, cl, by rw [HEND.out]; rfl, HS5.out, HB11.out⟩
 obtain ⟨nh, hnh⟩ : ∃ z : Nat, z = 0 := ⟨0, rfl⟩; have HN0 := Hd.mk (show n = n + B ^ k * nh by rw [hnh]; simp); have hc := norm_cut A2 c2 n (ln n) w HY.out (Nat.le_refl _); have hmod : n % B ^ ln n = n := Nat.mod_eq_of_lt (lt_pow_ln n); rw [hmod] at hc; have HC2 := Hd.mk hc; have HBL := Hd.mk (show NN w A2 (ln n) n from ⟨HY.out.1, Nat.le_refl _, by omega⟩); have hkn2 : ¬ (k : Int) < (ln n : Int) := by omega
 have hkn4 : (ln n : Int) < (k : Int) := by omega
 have hkn3 : (ln n : Int) ≤ (c2 : Int) := by omega
 have HBHH := Hd.mk (show NN w (some ⟨w.heap.size, 0, none⟩) 0 nh from hnh ▸ NN.nil w (some ⟨w.heap.size, 0, none⟩) 0 (by omega)); have HLBH := Hd.mk (show ln nh = 0 from hnh ▸ ln_zero); clear hmod hc hnh; go_wp2_with (first | (go_at_call 114; refine (HC2.out _ (below_drewN (Below.refl _ _) _)).mono ?_; rintro e w' ⟨rfl, rfl⟩))
 have hn : n = n + B ^ k * nh := HN0.out; have lnl : ln n ≤ k := by omega
 have lnh : ln nh ≤ ln n - k := by rw [HLBH.out]; omega
 have lml := lma; have lmh : ln b ≤ ln m - k := Nat.le_of_eq HLAH.out; have ls1 := ln_add a b; have ls2 := ln_add (n) (nh); have hkar := kara_le a b (n) (nh); have hfin := kara m n a b (n) (nh) (B ^ k) HM.out hn; have lp1 := ln_mul a (n); have lp2 := ln_mul b (nh); have lp3 := ln_mul (a + b) (n + nh); have ld1 := ln_mono (Nat.sub_le ((a + b) * (n + nh)) (a * (n))); have ld2 := ln_mono (Nat.sub_le ((a + b) * (n + nh) - a * (n)) (b * (nh))); have HFIN := Hd.mk hfin; have HKAR := Hd.mk hkar; have lw1 := ln_mul ((a + b) * (n + nh) - a * (n) - b * (nh)) (B ^ k); have lw0 := ln_pow_le k; have lw2 := ln_mul (b * (nh)) (B ^ (2 * k)); have lw3 := ln_pow_le (2 * k); have ls4 := ln_add (a * (n)) (((a + b) * (n + nh) - a * (n) - b * (nh)) * B ^ k); clear hn hfin hkar; have HB0 := Hd.mk (below_alloc (below_drewN (Below.refl w.heap.size w) nq) (.cells #[] 123)); refine (H A1 k a A2 (ln n) (n) _ (HAL.out.to HB0.out) (HBL.out.to HB0.out) (by omega) (by omega) (by omega)).mono ?_; rintro e w1 ⟨Aa, ca, rfl, hlow, hb1⟩; have HLOW := Hd.mk hlow; have HB1 := Hd.mk (bel_then HB0.out hb1); clear hlow hb1; go_wp2_with fail
 refine (show Calls Tryz.prog _ #[.slice A3 (ln m - k) (c1 - k), .slice (some ⟨w.heap.size, 0, none⟩) (0) (0)] w1 _ from by have c := H A3 (c1 - k) b (some ⟨w.heap.size, 0, none⟩) (0) (nh) w1 (HAHH.out.to HB1.out) (HBHH.out.to HB1.out) (by omega) (by omega) (by omega); rw [HLAH.out, HLBH.out] at c; exact c).mono ?_; rintro e w2 ⟨Ab, cb, rfl, hhigh, hb2⟩; have HHIGH := Hd.mk hhigh; have HLOW2 := Hd.mk (HLOW.out.to hb2); have HB2 := Hd.mk (bel_then HB1.out hb2); clear hhigh hb2; go_wp2_with fail
 refine (show Calls Tryz.prog _ #[.slice A1 (ln a) k, .slice A3 (ln m - k) (c1 - k)] w2 _ from by have c := add_calls A1 k a A3 (c1 - k) b w2 (HAL.out.to HB2.out) (HAHH.out.to HB2.out) (by omega) (by omega); rw [HLAH.out] at c; exact c).mono ?_; rintro e w3 ⟨Ac, cc, rfl, hs1, hb3⟩; have HS1 := Hd.mk hs1; have HB3 := Hd.mk (bel_then HB2.out hb3); have HBS := Hd.mk hb3; clear hs1 hb3; go_wp2_with fail
 refine (show Calls Tryz.prog _ #[.slice A2 (ln n) (ln n), .slice (some ⟨w.heap.size, 0, none⟩) (0) (0)] w3 _ from by have c := add_calls A2 (ln n) (n) (some ⟨w.heap.size, 0, none⟩) (0) (nh) w3 (HBL.out.to HB3.out) (HBHH.out.to HB3.out) (by omega) (by omega); rw [HLBH.out] at c; exact c).mono ?_; rintro e w4 ⟨Ad, cd, rfl, hs2, hb4⟩; have HS2 := Hd.mk hs2; have HB4 := Hd.mk (bel_then HB3.out hb4); have HBS4 := Hd.mk (bel_then HBS.out hb4); have HS1 := Hd.mk (HS1.out.to hb4); clear hs2 hb4; go_wp2_with fail
 refine (H Ac cc (a + b) Ad cd (n + nh) _ HS1.out HS2.out (by omega) (by omega) (by omega)).mono ?_; rintro e w5 ⟨Ae, ce, rfl, hmid, hb5⟩; have HMID := Hd.mk hmid; have HB5 := Hd.mk (bel_then HB4.out hb5); have HBS5 := Hd.mk (bel_then HBS4.out hb5); clear hmid hb5; go_wp2_with fail
 refine (sub_calls Ae ce ((a + b) * (n + nh)) Aa ca (a * (n)) _ HMID.out (HLOW2.out.to HBS5.out) HKAR.out.1 (by omega)).mono ?_; rintro e w6 ⟨Af, cf, rfl, hm1, hb6⟩; have HM1 := Hd.mk hm1; have HB6 := Hd.mk (bel_then HB5.out hb6); have HBS6 := Hd.mk (bel_then HBS5.out hb6); clear hm1 hb6; go_wp2_with fail
 refine (sub_calls Af cf ((a + b) * (n + nh) - a * (n)) Ab cb (b * (nh)) _ HM1.out (HHIGH.out.to HBS6.out) HKAR.out.2 (by omega)).mono ?_; rintro e w7 ⟨Ag, cg, rfl, hm2, hb7⟩; have HM2 := Hd.mk hm2; have HB7 := Hd.mk (bel_then HB6.out hb7); have HBS7 := Hd.mk (bel_then HBS6.out hb7); clear hm2 hb7; go_wp2_with fail
 refine (words_calls Ag cg ((a + b) * (n + nh) - a * (n) - b * (nh)) k _ HM2.out (by omega) (by omega)).mono ?_; rintro e w8 ⟨Ah, ch, rfl, hw1, hb8⟩; have HW1 := Hd.mk hw1; have HB8 := Hd.mk (bel_then HB7.out hb8); have HBS8 := Hd.mk (bel_then HBS7.out hb8); clear hw1 hb8; go_wp2_with fail
 refine (add_calls Aa ca (a * (n)) Ah ch (((a + b) * (n + nh) - a * (n) - b * (nh)) * B ^ k) _ (HLOW2.out.to HBS8.out) HW1.out (by omega) (by omega)).mono ?_; rintro e w9 ⟨Ai, ci, rfl, hs3, hb9⟩; have HS3 := Hd.mk hs3; have HB9 := Hd.mk (bel_then HB8.out hb9); have HBS9 := Hd.mk (bel_then HBS8.out hb9); clear hs3 hb9; go_wp2_with fail
 refine (show Calls Tryz.prog _ #[.slice Ab (ln (b * (nh))) cb, .int .i64 (2 * (k : Int))] w9 _ from by have c := words_calls Ab cb (b * (nh)) (2 * k) w9 (HHIGH.out.to HBS9.out) (by omega) (by omega); rw [show ((2 * k : Nat) : Int) = 2 * (k : Int) from by omega] at c; exact c).mono ?_; rintro e w10 ⟨Aj, cj, rfl, hw2, hb10⟩; have HW2 := Hd.mk hw2; have HB10 := Hd.mk (bel_then HB9.out hb10); have HS3 := Hd.mk (HS3.out.to hb10); clear hw2 hb10; go_wp2_with fail
 refine (add_calls Ai ci (a * (n) + ((a + b) * (n + nh) - a * (n) - b * (nh)) * B ^ k) Aj cj (b * (nh) * B ^ (2 * k)) _ HS3.out HW2.out (by omega) (by omega)).mono ?_; rintro e w11 ⟨Al, cl, rfl, hs5, hb11⟩; have hpow : B ^ (2 * k) = B ^ k * B ^ k := by rw [Nat.two_mul, Nat.pow_add]
 have hend := HFIN.out; rw [← hpow] at hend; rw [hend] at hs5; have HS5 := Hd.mk hs5; have HB11 := Hd.mk (bel_then HB10.out hb11); have HEND := Hd.mk hend; clear hs5 hb11 hpow hend; go_wp2_with fail
 go_ret
 exact ⟨Al, cl, by rw [HEND.out]; rfl, HS5.out, HB11.out⟩
set_option maxRecDepth 100000 in
theorem mul_big (N : Nat) (H : MulOk N) (A1 : Option Addr) (c1 m : Nat) (A2 : Option Addr) (c2 n : Nat) (w : World) (h1 : NN w A1 c1 m) (h2 : NN w A2 c2 n) (l1 : ln m ≤ 268435456) (l2 : ln n ≤ 268435456) (hm : 40 ≤ ln m) (hn : 40 ≤ ln n) (hN : ln m + ln n ≤ N + 1) :
  Calls Tryz.prog 115 #[.slice A1 (ln m) c1, .slice A2 (ln n) c2] w (RetN (m * n) w) := by
 by_cases hlt : ln m < ln n
 ·have c := split_calls N H A2 c2 n A1 c1 m w h2 h1 l2 (by omega) hm (by omega); rw [Nat.mul_comm n m] at c; have HC := Hd.mk c; clear c h1 h2; go_enter Tryz.func115, Tryz.ntmps115
  go_wp2_with (first | (go_at_call 139; refine HC.out.mono ?_; rintro e w1 ⟨A, c, rfl, hN1, hB⟩; have HN := Hd.mk hN1; have HB := Hd.mk hB; clear hN1 hB))
  go_ret
  exact ⟨A, c, rfl, HN.out, HB.out⟩
 have c := split_calls N H A1 c1 m A2 c2 n w h1 h2 l1 (by omega) hn (by omega); have HC := Hd.mk c; clear c h1 h2; go_enter Tryz.func115, Tryz.ntmps115
 go_wp2_with (first | (go_at_call 139; refine HC.out.mono ?_; rintro e w1 ⟨A, c, rfl, hN1, hB⟩; have HN := Hd.mk hN1; have HB := Hd.mk hB; clear hN1 hB))
 go_ret
 exact ⟨A, c, rfl, HN.out, HB.out⟩
theorem mul_ok : ∀ N, MulOk N := by
 intro N
 induction N with
 | zero =>
  intro A1 c1 m A2 c2 n w h1 h2 l1 l2 hN; exact mul_school A1 c1 m A2 c2 n w h1 h2 (by omega) (by omega) (by omega)
 | succ N ih =>
  intro A1 c1 m A2 c2 n w h1 h2 l1 l2 hN; by_cases hs : ln m < 40 ∨ ln n < 40
  ·exact mul_school A1 c1 m A2 c2 n w h1 h2 (by omega) (by omega) hs
  exact mul_big N ih A1 c1 m A2 c2 n w h1 h2 l1 l2 (by omega) (by omega) hN
theorem mul_calls (A1 : Option Addr) (c1 m : Nat) (A2 : Option Addr) (c2 n : Nat) (w : World) (h1 : NN w A1 c1 m) (h2 : NN w A2 c2 n) (l1 : ln m ≤ 268435456) (l2 : ln n ≤ 268435456) :
  Calls Tryz.prog 115 #[.slice A1 (ln m) c1, .slice A2 (ln n) c2] w (RetN (m * n) w) := mul_ok _ A1 c1 m A2 c2 n w h1 h2 l1 l2 (Nat.le_refl _)
set_option maxRecDepth 100000 in
theorem clone_calls (A : Option Addr) (c n : Nat) (w : World) (h : NN w A c n) (l1 : ln n ≤ 1073741824) :
  Calls Tryz.prog 94 #[.slice A (ln n) c] w (RetN n w) := by
 rcases A with _ | ad
 ·have heq := fun W => Lib.run_eql_slice_nil (P := Tryz.prog) W 23 123 none (ln n) c 0 0 Tryz.underlying23
  have h0 : n = 0 := by
   by_cases h0 : 0 < ln n
   ·obtain ⟨ad, e, _⟩ := h.1 h0; cases e
   exact ln_eq_zero.1 (by omega)
  subst h0; clear h; go_enter Tryz.func94, Tryz.ntmps94
  go_wp2
  go_ret
  exact ⟨none, 0, by rw [ln_zero]; rfl, NN.nil _ _ _ (by omega), Below.refl _ _⟩
 have heq := fun W => Lib.run_eql_slice_nil (P := Tryz.prog) W 23 123 (some ad) (ln n) c 0 0 Tryz.underlying23
 have hown : (w.alloc (.cells #[] 123)).ownsRow w.heap.size 123 1 (.slice (some ⟨w.heap.size, 0, none⟩) 0 0) 0 (cells []) := own_made (heap_alloc_new w (.cells #[] 123)) (ds := []) (c := 0) (n := 0) rfl (Nat.le_refl _) (by omega) (Nat.le_refl _); have hrd := (h.1.to (below_alloc (Below.refl _ _) (.cells #[] 123))).reads; have HO := Hd.mk hown; have HR := Hd.mk hrd; obtain ⟨i0, hi, hz0, hz1, hz2⟩ := info_parts Tryz.info_word; clear h hown hrd; go_enter Tryz.func94, Tryz.ntmps94
 go_wp2_with (first | (at_builtin; refine wpList_append_any _ rfl (.tmp 5) (.tmp 6) 23 rfl w.heap.size 123 i0 (.int .u32 0) 1 4 Tryz.underlying23 hi hz0 hz1 hz2 rfl (by decide) (.slice (some ⟨w.heap.size, 0, none⟩) 0 0) 0 (cells []) rfl HO.out _ (some ad) (ln n) c (cells (dig n)) rfl HR.out (cells_one _) (by unfold maxLen; omega) (by omega) (by simp) ?_; intro v1 w1 hown1 hg1 hat1))
 rw [Nat.zero_add, show cells [] ++ cells (dig n) = cells (dig n) from rfl] at hown1; obtain ⟨A, c, rfl, hrn, hc1, hc2⟩ := own_slice (xs := dig n) hown1; go_wp2
 go_ret
 exact ⟨A, c, rfl, ⟨hrn, hc1, hc2⟩, (below_alloc (Below.refl w.heap.size w) _).grown hg1 (by simp) (fun j e => by cases e; exact Nat.le_refl _)⟩
theorem of_calls (b : Bool) (A : Option Addr) (n c : Nat) (w : World) :
  Calls Tryz.prog 59 #[.agg #[.bool b, .slice A n c]] w fun e w' => e = .returned (.agg #[.bool b, .slice A n c]) ∧ Below w.heap.size w w' := by
 go_enter Tryz.func59, Tryz.ntmps59
 go_wp2_with fail
 exact bodyPost_ret (v := .agg #[.bool b, .slice A n c]) (by simp [results, Tryz.results59, go_sem]) rfl ⟨rfl, by repeat (first | exact HB.out | exact Below.refl _ _ | refine below_alloc ?_ _ | refine below_drewN ?_ _ | refine below_drew ?_ | refine below_set ?_ (by first | exact Nat.le_refl _ | omega | (simp; done) | (simp; omega)) _)⟩
set_option maxRecDepth 100000 in
theorem value_calls (z : Int) (A : Option Addr) (c : Nat) (w : World) (h : NN w A c z.natAbs) (l1 : ln z.natAbs ≤ 1073741824) :
  Calls Tryz.prog 62 #[.agg #[.bool (decide (z < 0)), .slice A (ln z.natAbs) c]] w (RetZ z w) := by
 have HX := Hd.mk h; by_cases h0 : z = 0
 ·subst h0; clear h; rw [show ln (Int.natAbs 0) = 0 from ln_zero, show decide ((0 : Int) < 0) = false from rfl]; have hd0 : decide ((0 : Nat) = 0) = true := rfl; go_enter Tryz.func62, Tryz.ntmps62
  go_wp2_with (first | (go_at_call 66; refine (zero_calls _ _ _ _ (by omega)).mono ?_; rintro e w' ⟨rfl, rfl⟩))
  exact bodyPost_ret (v := .agg #[.bool false, .slice none 0 0]) (by simp [results, Tryz.results62, go_sem]) rfl ⟨none, 0, by rw [show ln (Int.natAbs 0) = 0 from ln_zero]; rfl, NN.nil _ _ _ (by omega), by repeat (first | exact HB.out | exact Below.refl _ _ | refine below_alloc ?_ _ | refine below_drewN ?_ _ | refine below_drew ?_ | refine below_set ?_ (by first | exact Nat.le_refl _ | omega | (simp; done) | (simp; omega)) _)⟩
 have hl : ln z.natAbs ≠ 0 := fun h => h0 (by have := ln_eq_zero.1 h; omega)
 have hd0 : decide (ln z.natAbs = 0) = false := decide_eq_false hl; clear h; obtain ⟨b, hb⟩ : ∃ b, b = decide (z < 0) := ⟨_, rfl⟩; rw [← hb]; have HBB := Hd.mk hb; clear hb; go_enter Tryz.func62, Tryz.ntmps62
 go_wp2_with (first | (go_at_call 66; refine (zero_calls _ _ _ _ (by omega)).mono ?_; rintro e w' ⟨rfl, rfl⟩))
 go_region_held3 (fun w' => w'.cell? ⟨w.heap.size, 0, none⟩ = some (.bool b) ∧ w'.cell? ⟨w.heap.size, 1, none⟩ = some (.slice A (ln z.natAbs) c))
  (first | go_keep | (go_split_ands; exact ⟨(hc1 _ _ (by simp; omega)).trans (by simp), (hc1 _ _ (by simp; omega)).trans (by simp)⟩))
  (first | (go_at_call 94; refine (clone_calls _ _ _ _ (HX.out.to (by repeat (first | exact HB.out | exact Below.refl _ _ | refine below_alloc ?_ _ | refine below_drewN ?_ _ | refine below_drew ?_ | refine below_set ?_ (by first | exact Nat.le_refl _ | omega | (simp; done) | (simp; omega)) _))) l1).mono ?_; rintro e w1 ⟨A1, c1, rfl, hn1, hb1⟩; obtain ⟨hc1, hf1⟩ := bcell hb1; have HN1 := Hd.mk hn1; have HB1 := Hd.mk hb1; clear hn1 hb1))
 go_wp2_with fail
 have HB : Hd (Below w.heap.size w w1) := ⟨bel_then (by repeat (first | exact HB.out | exact Below.refl _ _ | refine below_alloc ?_ _ | refine below_drewN ?_ _ | refine below_drew ?_ | refine below_set ?_ (by first | exact Nat.le_refl _ | omega | (simp; done) | (simp; omega)) _)) HB1.out⟩; have g0 : w1.cell? ⟨w.heap.size + 1, 0, none⟩ = some (.bool false) := (hc1 _ _ (by simp)).trans (by simp); have g1 : w1.cell? ⟨w.heap.size + 1, 1, none⟩ = some (.slice none 0 0) := (hc1 _ _ (by simp)).trans (by simp); obtain ⟨k0, k1, k2⟩ := two_set g0 g1 (.bool b) (.slice A1 (ln z.natAbs) c1); refine bodyPost_ret (v := .agg #[.bool b, .slice A1 (ln z.natAbs) c1]) (by simp [results, Tryz.results62, go_sem, k0, k1]) rfl ?_; exact ⟨A1, c1, by rw [HBB.out], (HN1.out.set_ g0 (by intro x; simp) _).set_ k2 (by intro x; simp) _, by repeat (first | exact HB.out | exact Below.refl _ _ | refine below_alloc ?_ _ | refine below_drewN ?_ _ | refine below_drew ?_ | refine below_set ?_ (by first | exact Nat.le_refl _ | omega | (simp; done) | (simp; omega)) _)⟩
set_option maxHeartbeats 1000000 in
set_option maxRecDepth 100000 in
theorem wadd_calls (x y : Int) (A1 : Option Addr) (c1 : Nat) (A2 : Option Addr) (c2 : Nat) (w : World) (h1 : NN w A1 c1 x.natAbs) (h2 : NN w A2 c2 y.natAbs) (l1 : ln x.natAbs ≤ 1073741824) (l2 : ln y.natAbs ≤ 1073741824) :
  Calls Tryz.prog 65 #[.agg #[.bool (decide (x < 0)), .slice A1 (ln x.natAbs) c1], .agg #[.bool (decide (y < 0)), .slice A2 (ln y.natAbs) c2]] w (RetZ (x + y) w) := by
 have H1 := Hd.mk h1; have H2 := Hd.mk h2; clear h1 h2; by_cases hs : decide (x < 0) = decide (y < 0)
 ·have HZ : Hd ((x + y).natAbs = x.natAbs + y.natAbs) := ⟨by
   by_cases hx : x < 0 <;> by_cases hy : y < 0 <;> simp [hx, hy] at hs <;> omega⟩
  obtain ⟨b, hb⟩ : ∃ b, b = decide (x < 0) := ⟨_, rfl⟩
  have HS : Hd (decide (x + y < 0) = b) := ⟨by
   rw [hb]
   by_cases hx : x < 0 <;> by_cases hy : y < 0 <;> simp [hx, hy] at hs ⊢ <;> omega⟩
  rw [← hs, ← hb]; clear hs hb; have hbb : (b == b) = true := by simp
  go_enter Tryz.func65, Tryz.ntmps65
  go_wp2_with fail
  have ne1 : w.heap.size + 1 + 1 ≠ w.heap.size := by omega
  have ne2 : w.heap.size + 1 + 1 ≠ w.heap.size + 1 := by omega
  have ne3 : w.heap.size + 1 ≠ w.heap.size := by omega
  go_region_held3 (fun w' => w'.cell? ⟨w.heap.size, 0, none⟩ = some (.bool b) ∧ w'.cell? ⟨w.heap.size, 1, none⟩ = some (.slice A1 (ln x.natAbs) c1) ∧ w'.cell? ⟨w.heap.size + 1, 0, none⟩ = some (.bool b) ∧ w'.cell? ⟨w.heap.size + 1, 1, none⟩ = some (.slice A2 (ln y.natAbs) c2))
   (first | (go_keep; done) | ((repeat' apply And.intro) <;> (first | (go_keep; done) | (rw [hc1 _ _ (by first | (simp; done) | (simp; omega))]; go_keep) | (rw [World.cell?_setCell_far _ _ _ _ (by simp), World.cell?_setCell_far _ _ _ _ (by simp)]; rw [hc1 _ _ (by first | (simp; done) | (simp; omega))]; go_keep))))
   (first | (go_at_call 95; refine (add_calls _ _ _ _ _ _ _ (H1.out.to (by repeat (first | exact HB.out | exact Below.refl _ _ | refine below_alloc ?_ _ | refine below_drewN ?_ _ | refine below_drew ?_ | refine below_set ?_ (by first | exact Nat.le_refl _ | omega | (simp; done) | (simp; omega)) _))) (H2.out.to (by repeat (first | exact HB.out | exact Below.refl _ _ | refine below_alloc ?_ _ | refine below_drewN ?_ _ | refine below_drew ?_ | refine below_set ?_ (by first | exact Nat.le_refl _ | omega | (simp; done) | (simp; omega)) _))) l1 l2).mono ?_; rintro e w1 ⟨A3, c3, rfl, hn1, hb1⟩; obtain ⟨hc1, hf1⟩ := bcell hb1; have HN1 := Hd.mk hn1; have HB1 := Hd.mk hb1; clear hn1 hb1))
  go_wp2_with fail
  have HB : Hd (Below w.heap.size w w1) := ⟨bel_then (by repeat (first | exact HB.out | exact Below.refl _ _ | refine below_alloc ?_ _ | refine below_drewN ?_ _ | refine below_drew ?_ | refine below_set ?_ (by first | exact Nat.le_refl _ | omega | (simp; done) | (simp; omega)) _)) HB1.out⟩; have g0 : w1.cell? ⟨w.heap.size + 1 + 1, 0, none⟩ = some (.bool false) := (hc1 _ _ (by simp)).trans ((blk_third w _ _ [.bool false, .slice none 0 0] 100).cell 0); have g1 : w1.cell? ⟨w.heap.size + 1 + 1, 1, none⟩ = some (.slice none 0 0) := (hc1 _ _ (by simp)).trans ((blk_third w _ _ [.bool false, .slice none 0 0] 100).cell 1); obtain ⟨k0, k1, k2⟩ := two_set g0 g1 (.bool b) (.slice A3 (ln (x.natAbs + y.natAbs)) c3); refine bodyPost_ret (v := .agg #[.bool b, .slice A3 (ln (x.natAbs + y.natAbs)) c3]) (by simp [results, Tryz.results65, go_sem, k0, k1]) rfl ?_; refine ⟨A3, c3, by rw [HZ.out, HS.out], ?_, by repeat (first | exact HB.out | exact Below.refl _ _ | refine below_alloc ?_ _ | refine below_drewN ?_ _ | refine below_drew ?_ | refine below_set ?_ (by first | exact Nat.le_refl _ | omega | (simp; done) | (simp; omega)) _)⟩; rw [HZ.out]; exact (HN1.out.set_ g0 (by intro t; simp) _).set_ k2 (by intro t; simp) _
 have hbn : ∃ b b2, b = decide (x < 0) ∧ b2 = decide (y < 0) ∧ (b == b2) = false := ⟨_, _, rfl, rfl, by simpa using hs⟩; obtain ⟨b, b2, hb, hb2, hbb⟩ := hbn; rw [← hb, ← hb2]
 have hxy : (x < 0 ∧ 0 ≤ y) ∨ (0 ≤ x ∧ y < 0) := by
  by_cases hx : x < 0 <;> by_cases hy : y < 0 <;> simp [hx, hy] at hs <;> omega
 have HC := Hd.mk (fun W hW => cmp_calls A1 c1 x.natAbs A2 c2 y.natAbs W (H1.out.to hW) (H2.out.to hW)); rcases Nat.lt_trichotomy x.natAbs y.natAbs with hlt | heq | hgt
 ·have hv : cmpv x.natAbs y.natAbs = -1 := by unfold cmpv; rw [if_pos hlt]
  have HV := Hd.mk hv; have HZ : Hd ((x + y).natAbs = y.natAbs - x.natAbs) := ⟨by omega⟩; have HS : Hd (decide (x + y < 0) = b2) := ⟨by rw [hb2]; apply decide_eq_decide.2; omega⟩; have hle := Nat.le_of_lt hlt; clear hs hb hb2 hxy hv hlt; go_enter Tryz.func65, Tryz.ntmps65
  go_wp2_with (first | (go_at_call 91; refine (HC.out _ (by repeat (first | exact HB.out | exact Below.refl _ _ | refine below_alloc ?_ _ | refine below_drewN ?_ _ | refine below_drew ?_ | refine below_set ?_ (by first | exact Nat.le_refl _ | omega | (simp; done) | (simp; omega)) _))).mono ?_; rintro e w' ⟨rfl, q, rfl⟩; rw [HV.out]))
  have ne1 : w.heap.size + 1 + 1 ≠ w.heap.size := by omega
  have ne2 : w.heap.size + 1 + 1 ≠ w.heap.size + 1 := by omega
  have ne3 : w.heap.size + 1 ≠ w.heap.size := by omega
  go_region_held3 (fun w' => w'.cell? ⟨w.heap.size, 0, none⟩ = some (.bool b) ∧ w'.cell? ⟨w.heap.size, 1, none⟩ = some (.slice A1 (ln x.natAbs) c1) ∧ w'.cell? ⟨w.heap.size + 1, 0, none⟩ = some (.bool b2) ∧ w'.cell? ⟨w.heap.size + 1, 1, none⟩ = some (.slice A2 (ln y.natAbs) c2))
   (first | (go_keep; done) | ((repeat' apply And.intro) <;> (first | (go_keep; done) | (rw [hc1 _ _ (by first | (simp; done) | (simp; omega))]; go_keep) | (rw [World.cell?_setCell_far _ _ _ _ (by simp), World.cell?_setCell_far _ _ _ _ (by simp)]; rw [hc1 _ _ (by first | (simp; done) | (simp; omega))]; go_keep))))
   (first | (go_at_call 96; refine (sub_calls _ _ _ _ _ _ _ (H2.out.to (by repeat (first | exact HB.out | exact Below.refl _ _ | refine below_alloc ?_ _ | refine below_drewN ?_ _ | refine below_drew ?_ | refine below_set ?_ (by first | exact Nat.le_refl _ | omega | (simp; done) | (simp; omega)) _))) (H1.out.to (by repeat (first | exact HB.out | exact Below.refl _ _ | refine below_alloc ?_ _ | refine below_drewN ?_ _ | refine below_drew ?_ | refine below_set ?_ (by first | exact Nat.le_refl _ | omega | (simp; done) | (simp; omega)) _))) hle l2).mono ?_; rintro e w1 ⟨A3, c3, rfl, hn1, hb1⟩; obtain ⟨hc1, hf1⟩ := bcell hb1; have HN1 := Hd.mk hn1; have HB1 := Hd.mk hb1; clear hn1 hb1))
  go_wp2_with fail
  have HB : Hd (Below w.heap.size w w1) := ⟨bel_then (by repeat (first | exact HB.out | exact Below.refl _ _ | refine below_alloc ?_ _ | refine below_drewN ?_ _ | refine below_drew ?_ | refine below_set ?_ (by first | exact Nat.le_refl _ | omega | (simp; done) | (simp; omega)) _)) HB1.out⟩; have g0 : w1.cell? ⟨w.heap.size + 1 + 1, 0, none⟩ = some (.bool false) := (hc1 _ _ (by simp)).trans ((blk_third w _ _ [.bool false, .slice none 0 0] 100).cell 0); have g1 : w1.cell? ⟨w.heap.size + 1 + 1, 1, none⟩ = some (.slice none 0 0) := (hc1 _ _ (by simp)).trans ((blk_third w _ _ [.bool false, .slice none 0 0] 100).cell 1); obtain ⟨k0, k1, k2⟩ := two_set g0 g1 (.bool b2) (.slice A3 (ln (y.natAbs - x.natAbs)) c3); refine bodyPost_ret (v := .agg #[.bool b2, .slice A3 (ln (y.natAbs - x.natAbs)) c3]) (by simp [results, Tryz.results65, go_sem, k0, k1]) rfl ?_; refine ⟨A3, c3, by rw [HZ.out, HS.out], ?_, by repeat (first | exact HB.out | exact Below.refl _ _ | refine below_alloc ?_ _ | refine below_drewN ?_ _ | refine below_drew ?_ | refine below_set ?_ (by first | exact Nat.le_refl _ | omega | (simp; done) | (simp; omega)) _)⟩; rw [HZ.out]; exact (HN1.out.set_ g0 (by intro t; simp) _).set_ k2 (by intro t; simp) _
 ·have hv : cmpv x.natAbs y.natAbs = 0 := by unfold cmpv; rw [if_neg (by omega), if_pos heq]
  have HV := Hd.mk hv; have HZ : Hd (x + y = 0) := ⟨by omega⟩; clear hs hb hb2 hxy hv heq; go_enter Tryz.func65, Tryz.ntmps65
  go_wp2_with (first | (go_at_call 91; refine (HC.out _ (by repeat (first | exact HB.out | exact Below.refl _ _ | refine below_alloc ?_ _ | refine below_drewN ?_ _ | refine below_drew ?_ | refine below_set ?_ (by first | exact Nat.le_refl _ | omega | (simp; done) | (simp; omega)) _))).mono ?_; rintro e w' ⟨rfl, q, rfl⟩; rw [HV.out]))
  refine bodyPost_ret (v := .agg #[.bool false, .slice none 0 0]) (by simp [results, Tryz.results65, go_sem]) rfl ?_; rw [HZ.out]; exact ⟨none, 0, by rw [show ln (Int.natAbs 0) = 0 from ln_zero]; rfl, NN.nil _ _ _ (by omega), by repeat (first | exact HB.out | exact Below.refl _ _ | refine below_alloc ?_ _ | refine below_drewN ?_ _ | refine below_drew ?_ | refine below_set ?_ (by first | exact Nat.le_refl _ | omega | (simp; done) | (simp; omega)) _)⟩
 have hv : cmpv x.natAbs y.natAbs = 1 := by unfold cmpv; rw [if_neg (by omega), if_neg (by omega)]
 have HV := Hd.mk hv; have HZ : Hd ((x + y).natAbs = x.natAbs - y.natAbs) := ⟨by omega⟩; have HS : Hd (decide (x + y < 0) = b) := ⟨by rw [hb]; apply decide_eq_decide.2; omega⟩; have hle := Nat.le_of_lt hgt; clear hs hb hb2 hxy hv hgt; go_enter Tryz.func65, Tryz.ntmps65
 go_wp2_with (first | (go_at_call 91; refine (HC.out _ (by repeat (first | exact HB.out | exact Below.refl _ _ | refine below_alloc ?_ _ | refine below_drewN ?_ _ | refine below_drew ?_ | refine below_set ?_ (by first | exact Nat.le_refl _ | omega | (simp; done) | (simp; omega)) _))).mono ?_; rintro e w' ⟨rfl, q, rfl⟩; rw [HV.out]))
 have ne1 : w.heap.size + 1 + 1 ≠ w.heap.size := by omega
 have ne2 : w.heap.size + 1 + 1 ≠ w.heap.size + 1 := by omega
 have ne3 : w.heap.size + 1 ≠ w.heap.size := by omega
 go_region_held3 (fun w' => w'.cell? ⟨w.heap.size, 0, none⟩ = some (.bool b) ∧ w'.cell? ⟨w.heap.size, 1, none⟩ = some (.slice A1 (ln x.natAbs) c1) ∧ w'.cell? ⟨w.heap.size + 1, 0, none⟩ = some (.bool b2) ∧ w'.cell? ⟨w.heap.size + 1, 1, none⟩ = some (.slice A2 (ln y.natAbs) c2))
  (first | (go_keep; done) | ((repeat' apply And.intro) <;> (first | (go_keep; done) | (rw [hc1 _ _ (by first | (simp; done) | (simp; omega))]; go_keep) | (rw [World.cell?_setCell_far _ _ _ _ (by simp), World.cell?_setCell_far _ _ _ _ (by simp)]; rw [hc1 _ _ (by first | (simp; done) | (simp; omega))]; go_keep))))
  (first | (go_at_call 96; refine (sub_calls _ _ _ _ _ _ _ (H1.out.to (by repeat (first | exact HB.out | exact Below.refl _ _ | refine below_alloc ?_ _ | refine below_drewN ?_ _ | refine below_drew ?_ | refine below_set ?_ (by first | exact Nat.le_refl _ | omega | (simp; done) | (simp; omega)) _))) (H2.out.to (by repeat (first | exact HB.out | exact Below.refl _ _ | refine below_alloc ?_ _ | refine below_drewN ?_ _ | refine below_drew ?_ | refine below_set ?_ (by first | exact Nat.le_refl _ | omega | (simp; done) | (simp; omega)) _))) hle l1).mono ?_; rintro e w1 ⟨A3, c3, rfl, hn1, hb1⟩; obtain ⟨hc1, hf1⟩ := bcell hb1; have HN1 := Hd.mk hn1; have HB1 := Hd.mk hb1; clear hn1 hb1))
 go_wp2_with fail
 have HB : Hd (Below w.heap.size w w1) := ⟨bel_then (by repeat (first | exact HB.out | exact Below.refl _ _ | refine below_alloc ?_ _ | refine below_drewN ?_ _ | refine below_drew ?_ | refine below_set ?_ (by first | exact Nat.le_refl _ | omega | (simp; done) | (simp; omega)) _)) HB1.out⟩; have g0 : w1.cell? ⟨w.heap.size + 1 + 1, 0, none⟩ = some (.bool false) := (hc1 _ _ (by simp)).trans ((blk_third w _ _ [.bool false, .slice none 0 0] 100).cell 0); have g1 : w1.cell? ⟨w.heap.size + 1 + 1, 1, none⟩ = some (.slice none 0 0) := (hc1 _ _ (by simp)).trans ((blk_third w _ _ [.bool false, .slice none 0 0] 100).cell 1); obtain ⟨k0, k1, k2⟩ := two_set g0 g1 (.bool b) (.slice A3 (ln (x.natAbs - y.natAbs)) c3); refine bodyPost_ret (v := .agg #[.bool b, .slice A3 (ln (x.natAbs - y.natAbs)) c3]) (by simp [results, Tryz.results65, go_sem, k0, k1]) rfl ?_; refine ⟨A3, c3, by rw [HZ.out, HS.out], ?_, by repeat (first | exact HB.out | exact Below.refl _ _ | refine below_alloc ?_ _ | refine below_drewN ?_ _ | refine below_drew ?_ | refine below_set ?_ (by first | exact Nat.le_refl _ | omega | (simp; done) | (simp; omega)) _)⟩; rw [HZ.out]; exact (HN1.out.set_ g0 (by intro t; simp) _).set_ k2 (by intro t; simp) _
end Go.Proofs.YtddbmckbankmeaaGreat.Ex
