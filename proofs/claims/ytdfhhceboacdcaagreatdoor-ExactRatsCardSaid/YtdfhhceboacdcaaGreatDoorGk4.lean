/- Part 4 of the texts behind this claim. -/
import Derived.Test.YtdfhhceboacdcaaGreatDoorGk2
import Derived.Test.YtdfhhceboacdcaaGreatDoorGk3
set_option linter.unusedVariables false
namespace Go.Proofs.YtdfhhceboacdcaaGreatDoor
open Go.RowKit
set_option maxRecDepth 100000 in
theorem words_calls (A1 : Option Addr) (c1 n : Nat) (k : Nat) (w : World) (h1 : NN w A1 c1 n) (l1 : ln n ≤ 1073741824) (l2 : k ≤ 1073741824) :
  Calls Tryz.prog 103 #[.slice A1 (ln n) c1, .int .i64 (k : Int)] w (RetN (n * B ^ k) w) := by
 have HX := Hd.mk h1; by_cases h0 : n = 0
 ·subst h0; clear h1; rw [ln_zero, Nat.zero_mul]; go_enter Tryz.func103, Tryz.ntmps103
  go_wp2_with (first | (go_at_call 65; refine (zero_calls _ _ _ _ (by omega)).mono ?_; rintro e w' ⟨rfl, rfl⟩))
  go_ret
  exact ⟨none, 0, by rw [ln_zero]; rfl, NN.nil _ _ _ (by omega), Below.refl _ _⟩
 have hlp : ln n ≠ 0 := fun h => h0 (ln_eq_zero.1 h)
 have hd0 : decide (ln n = 0) = false := decide_eq_false hlp; have hmk := fun W => make_words2 49 Tryz.underlying49 (k : Int) ((k : Int) + (ln n : Int)) k (k + ln n) rfl (by omega) (by omega) (by omega) W
 have hown : (w.alloc (.cells (cells (List.replicate (k + ln n) 0)).toArray 46)).ownsRow w.heap.size 46 1 (.slice (some ⟨w.heap.size, 0, none⟩) k (k + ln n)) k (cells (List.replicate k 0)) := by
  have := own_made (heap_alloc_new w (.cells (cells (List.replicate (k + ln n) 0)).toArray 46)) (c := k + ln n) (n := k) (by simp) (by omega) (by omega) (base := w.heap.size) (Nat.le_refl _); rwa [List.take_replicate, Nat.min_eq_left (by omega)] at this
 have hrd : Reads (w.alloc (.cells (cells (List.replicate (k + ln n) 0)).toArray 46)) (w.alloc (.cells (cells (List.replicate (k + ln n) 0)).toArray 46)).heap.size 1 A1 (ln n) (cells (dig n)) := (h1.1.to (below_alloc (Below.refl _ _) _)).reads; have HO := Hd.mk hown; have HR := Hd.mk hrd; obtain ⟨i0, hi, hz0, hz1, hz2⟩ := info_parts Tryz.info_word; clear h1 hown hrd h0; go_enter Tryz.func103, Tryz.ntmps103
 go_wp2_with (first | (go_at_call 65; refine (zero_calls _ _ _ _ (by omega)).mono ?_; rintro e w' ⟨rfl, rfl⟩) | (at_builtin; refine wpList_append_any _ rfl (.tmp 12) (.tmp 13) 49 rfl w.heap.size 46 i0 (.int .u32 0) 1 4 Tryz.underlying49 hi hz0 hz1 hz2 rfl (by decide) (.slice (some ⟨w.heap.size, 0, none⟩) k (k + ln n)) k (cells (List.replicate k 0)) rfl HO.out _ A1 (ln n) c1 (cells (dig n)) rfl HR.out (cells_one _) (by unfold maxLen; omega) (by omega) (by simp) ?_; intro v1 w1 hown1 hg1 hat1))
 have hl : (List.replicate k 0 ++ dig n).length = k + ln n := by simp [ln]
 have hne : n ≠ 0 := fun h => hlp (ln_eq_zero.2 h)
 rw [← cells_append, ← hl] at hown1; obtain ⟨A, c, rfl, hrn, hc1, hc2⟩ := own_slice hown1; rw [← dig_shift hne] at hrn hc1; rw [← dig_shift hne]; go_ret
 exact ⟨A, c, rfl, ⟨hrn, hc1, hc2⟩, (below_alloc (Below.refl w.heap.size w) _).grown hg1 (by simp) (fun j e => by cases e; exact Nat.le_refl _)⟩
def MulOk (N : Nat) : Prop := ∀ (A1 : Option Addr) (c1 m : Nat) (A2 : Option Addr) (c2 n : Nat) (w : World), NN w A1 c1 m → NN w A2 c2 n → ln m ≤ 268435456 → ln n ≤ 268435456 → ln m + ln n ≤ N →
  Calls Tryz.prog 45 #[.slice A1 (ln m) c1, .slice A2 (ln n) c2] w (RetN (m * n) w)
theorem kara (m n a b c d K : Nat) (hm : m = a + K * b) (hn : n = c + K * d) : a * c + ((a + b) * (c + d) - a * c - b * d) * K + b * d * (K * K) = m * n := by
 have e : (a + b) * (c + d) = a * c + b * d + (a * d + b * c) := by
  rw [Nat.add_mul, Nat.mul_add, Nat.mul_add]; omega
 have e2 : (a + b) * (c + d) - a * c - b * d = a * d + b * c := by omega
 rw [e2, hm, hn, Nat.mul_add (a + K * b), Nat.add_mul a (K * b) c, Nat.add_mul a (K * b) (K * d), Nat.add_mul (a * d)]; have h1 : a * (K * d) = a * d * K := by rw [Nat.mul_comm K d, ← Nat.mul_assoc]
 have h2 : K * b * c = b * c * K := by rw [Nat.mul_assoc, Nat.mul_comm]
 have h3 : K * b * (K * d) = b * d * (K * K) := by
  rw [Nat.mul_comm K b, Nat.mul_assoc b K, ← Nat.mul_assoc K K d, Nat.mul_comm (K * K) d, ← Nat.mul_assoc]
 omega
theorem ln_pow_le (k : Nat) : ln (B ^ k) ≤ k + 1 := ln_le (Nat.pow_lt_pow_right (by decide) (Nat.lt_succ_self k))
theorem kara_le (a b c d : Nat) : a * c ≤ (a + b) * (c + d) ∧ b * d ≤ (a + b) * (c + d) - a * c := by
 have e : (a + b) * (c + d) = a * c + b * d + (a * d + b * c) := by
  rw [Nat.add_mul, Nat.mul_add, Nat.mul_add]; omega
 omega
theorem split_val (m k : Nat) : m = m % B ^ k + B ^ k * (m / B ^ k) := (Nat.mod_add_div m _).symm
theorem norm_cut (A : Option Addr) (c n k : Nat) (w : World) (h : NN w A c n) (hk : k ≤ ln n) (W : World) (hb : Below w.heap.size w W) :
  Calls Tryz.prog 78 #[.slice A k k] W fun e w' => e = .returned (.slice A (ln (n % B ^ k)) k) ∧ w' = W := by
 have hc := h.2.1; have hm := h.2.2; have hl : ((dig n).take k).length = k := by rw [List.length_take]; exact Nat.min_eq_left hk
 have := norm_calls A k ((dig n).take k) W ((h.1.to hb).take k) (dg_take (dg_dig n) k) (by omega) (by omega); rw [hl, val_take_mod (dg_dig n), val_dig] at this; exact this.mono fun e w' ⟨a, b⟩ => ⟨a, b.symm⟩
theorem NN.low {w : World} {A : Option Addr} {c n k : Nat} (h : NN w A c n) (hk : k ≤ ln n) : NN w A k (n % B ^ k) := by
 have hm := h.2.2; have hc := h.2.1; refine ⟨?_, ?_, by omega⟩
 ·have := (h.1.take k).of_take (dg_take (dg_dig n) k); rwa [val_take_mod (dg_dig n), val_dig] at this
 exact ln_le (Nat.mod_lt _ (Nat.pow_pos B_pos))
theorem dig_drop (n k : Nat) (hk : k < ln n) : (dig n).drop k = dig (n / B ^ k) := by
 have h1 : val ((dig n).drop k) = n / B ^ k := by rw [val_drop_div (dg_dig n), val_dig]
 rw [← h1]; symm
 refine dig_val (dg_drop (dg_dig n) k) fun j hj => ?_
 rw [List.length_drop] at hj; have hl : (dig n).length = ln n := rfl; have := dig_last n (k + j) (by omega); rwa [List.getD_eq_getElem?_getD, List.getElem?_drop, ← List.getD_eq_getElem?_getD]
theorem ln_high {n k : Nat} (hk : k < ln n) : ln (n / B ^ k) = ln n - k := by unfold ln; rw [← dig_drop n k hk, List.length_drop]
theorem NN.high {w : World} {A : Option Addr} {c n k : Nat} (h : NN w A c n) (hk : k < ln n) : NN w (if c = k then A else A.map (·.add k)) (c - k) (n / B ^ k) := by
 have hm := h.2.2; have hc := h.2.1; have hl : (dig n).length = ln n := rfl; refine ⟨?_, by rw [ln_high hk]; omega, by omega⟩; have := h.1.drop (k := k) (c := c) (by omega) (by omega); rwa [dig_drop n k hk] at this
set_option maxHeartbeats 4000000 in
set_option maxRecDepth 100000 in
theorem split_calls (N : Nat) (H : MulOk N) (A1 : Option Addr) (c1 m : Nat) (A2 : Option Addr) (c2 n : Nat) (w : World) (h1 : NN w A1 c1 m) (h2 : NN w A2 c2 n) (l1 : ln m ≤ 268435456) (hle : ln n ≤ ln m) (h40 : 40 ≤ ln n) (hN : ln m + ln n ≤ N + 1) :
  Calls Tryz.prog 77 #[.slice A1 (ln m) c1, .slice A2 (ln n) c2] w (RetN (m * n) w) := by
 have HX := Hd.mk h1; have HY := Hd.mk h2; have hc1 := h1.2.1; have hc2 := h2.2.1; have hd1 := h1.2.2; have hd2 := h2.2.2; obtain ⟨k, hk⟩ : ∃ k, k = ln m / 2 := ⟨_, rfl⟩; have hki : ((ln m : Int)) / 2 = (k : Int) := by omega
 have hk2 : 2 * k ≤ ln m := by omega
 have hk3 : ln m ≤ 2 * k + 1 := by omega
 have hk20 : 20 ≤ k := by omega
 have hkc : (k : Int) ≤ (c1 : Int) := by omega
 have hkm : (k : Int) ≤ (ln m : Int) := by omega
 have hk0 : (0 : Int) ≤ (k : Int) := by omega
 obtain ⟨a, ha⟩ : ∃ a, a = m % B ^ k := ⟨_, rfl⟩; obtain ⟨b, hb⟩ : ∃ b, b = m / B ^ k := ⟨_, rfl⟩; have hm : m = a + B ^ k * b := by rw [ha, hb]; exact split_val m k
 have lma : ln a ≤ k := by rw [ha]; exact ln_le (Nat.mod_lt _ (Nat.pow_pos B_pos))
 have HC1 := Hd.mk (norm_cut A1 c1 m k w HX.out (by omega)); rw [← ha] at HC1; have HAH := HX.out.high (k := k) (by omega); rw [← hb] at HAH; have hlah := ln_high (n := m) (k := k) (by omega); rw [← hb] at hlah; rw [if_neg (by omega)] at HAH; obtain ⟨A3, hA3⟩ : ∃ A3, A3 = A1.map (·.add k) := ⟨_, rfl⟩; have hA3' : A1.map (·.add k) = A3 := hA3.symm; rw [hA3'] at HAH; have HAHH := Hd.mk HAH; clear HAH; have hal := HX.out.low (k := k) (by omega); rw [← ha] at hal; have HAL := Hd.mk hal; have HM := Hd.mk hm; clear h1 h2 hk hA3 hal ha hb hm; have HLAH := Hd.mk hlah; clear hlah; go_enter Tryz.func77, Tryz.ntmps77
 go_wp2_with fail
 go_quiet ((go_at_call 78; exact Calls.quiet_of_same (HC1.out _ (below_drewN (Below.refl _ _) _))))
 by_cases hkn : k < ln n
 ·obtain ⟨nl, hnl⟩ : ∃ x, x = n % B ^ k := ⟨_, rfl⟩; obtain ⟨nh, hnh⟩ : ∃ x, x = n / B ^ k := ⟨_, rfl⟩; have HC2 := Hd.mk (norm_cut A2 c2 n k w HY.out (by omega)); have HBH := HY.out.high hkn; have hlbh := ln_high hkn; have hbl := HY.out.low (k := k) (by omega); have hn := split_val n k; have lnl : ln (n % B ^ k) ≤ k := ln_le (Nat.mod_lt _ (Nat.pow_pos B_pos)); have lnh : ln (n / B ^ k) ≤ ln n - k := Nat.le_of_eq hlbh; rw [← hnl] at HC2 hn lnl hbl; rw [← hnh] at HBH hlbh hn lnh; have HN := Hd.mk hn; clear hn hnl hnh; rw [if_neg (by omega)] at HBH; obtain ⟨A4, hA4⟩ : ∃ A4, A4 = A2.map (·.add k) := ⟨_, rfl⟩; have hA4' : A2.map (·.add k) = A4 := hA4.symm; rw [hA4'] at HBH; have HBHH := Hd.mk HBH; have HBL := Hd.mk hbl; have HLBH := Hd.mk hlbh; have hkn2 : (k : Int) < (ln n : Int) := by omega
  have hkn3 : (k : Int) ≤ (c2 : Int) := by omega
  clear hA4 HBH hlbh hbl; go_wp2_with (first | (go_at_call 78; refine (HC2.out _ (below_drewN (Below.refl _ _) _)).mono ?_; rintro e w' ⟨rfl, rfl⟩))
  have hn := HN.out; have lml := lma; have lmh : ln b ≤ ln m - k := Nat.le_of_eq HLAH.out; have ls1 := ln_add a b; have ls2 := ln_add (nl) (nh); have hkar := kara_le a b (nl) (nh); have hfin := kara m n a b (nl) (nh) (B ^ k) HM.out hn; have lp1 := ln_mul a (nl); have lp2 := ln_mul b (nh); have lp3 := ln_mul (a + b) (nl + nh); have ld1 := ln_mono (Nat.sub_le ((a + b) * (nl + nh)) (a * (nl))); have ld2 := ln_mono (Nat.sub_le ((a + b) * (nl + nh) - a * (nl)) (b * (nh))); have HFIN := Hd.mk hfin; have HKAR := Hd.mk hkar; have lw1 := ln_mul ((a + b) * (nl + nh) - a * (nl) - b * (nh)) (B ^ k); have lw0 := ln_pow_le k; have lw2 := ln_mul (b * (nh)) (B ^ (2 * k)); have lw3 := ln_pow_le (2 * k); have ls4 := ln_add (a * (nl)) (((a + b) * (nl + nh) - a * (nl) - b * (nh)) * B ^ k); clear hn hfin hkar; have HB0 := Hd.mk (below_alloc (below_drewN (Below.refl w.heap.size w) nq) (.cells #[] 46)); refine (H A1 k a A2 (k) (nl) _ (HAL.out.to HB0.out) (HBL.out.to HB0.out) (by omega) (by omega) (by omega)).mono ?_; rintro e w1 ⟨Aa, ca, rfl, hlow, hb1⟩; have HLOW := Hd.mk hlow; have HB1 := Hd.mk (bel_then HB0.out hb1); clear hlow hb1; go_wp2_with fail
  refine (show Calls Tryz.prog _ #[.slice A3 (ln m - k) (c1 - k), .slice A4 (ln n - k) (c2 - k)] w1 _ from by have c := H A3 (c1 - k) b A4 (c2 - k) (nh) w1 (HAHH.out.to HB1.out) (HBHH.out.to HB1.out) (by omega) (by omega) (by omega); rw [HLAH.out, HLBH.out] at c; exact c).mono ?_; rintro e w2 ⟨Ab, cb, rfl, hhigh, hb2⟩; have HHIGH := Hd.mk hhigh; have HLOW2 := Hd.mk (HLOW.out.to hb2); have HB2 := Hd.mk (bel_then HB1.out hb2); clear hhigh hb2; go_wp2_with fail
  refine (show Calls Tryz.prog _ #[.slice A1 (ln a) k, .slice A3 (ln m - k) (c1 - k)] w2 _ from by have c := add_calls A1 k a A3 (c1 - k) b w2 (HAL.out.to HB2.out) (HAHH.out.to HB2.out) (by omega) (by omega); rw [HLAH.out] at c; exact c).mono ?_; rintro e w3 ⟨Ac, cc, rfl, hs1, hb3⟩; have HS1 := Hd.mk hs1; have HB3 := Hd.mk (bel_then HB2.out hb3); have HBS := Hd.mk hb3; clear hs1 hb3; go_wp2_with fail
  refine (show Calls Tryz.prog _ #[.slice A2 (ln nl) (k), .slice A4 (ln n - k) (c2 - k)] w3 _ from by have c := add_calls A2 (k) (nl) A4 (c2 - k) (nh) w3 (HBL.out.to HB3.out) (HBHH.out.to HB3.out) (by omega) (by omega); rw [HLBH.out] at c; exact c).mono ?_; rintro e w4 ⟨Ad, cd, rfl, hs2, hb4⟩; have HS2 := Hd.mk hs2; have HB4 := Hd.mk (bel_then HB3.out hb4); have HBS4 := Hd.mk (bel_then HBS.out hb4); have HS1 := Hd.mk (HS1.out.to hb4); clear hs2 hb4; go_wp2_with fail
  refine (H Ac cc (a + b) Ad cd (nl + nh) _ HS1.out HS2.out (by omega) (by omega) (by omega)).mono ?_; rintro e w5 ⟨Ae, ce, rfl, hmid, hb5⟩; have HMID := Hd.mk hmid; have HB5 := Hd.mk (bel_then HB4.out hb5); have HBS5 := Hd.mk (bel_then HBS4.out hb5); clear hmid hb5; go_wp2_with fail
  refine (sub_calls Ae ce ((a + b) * (nl + nh)) Aa ca (a * (nl)) _ HMID.out (HLOW2.out.to HBS5.out) HKAR.out.1 (by omega)).mono ?_; rintro e w6 ⟨Af, cf, rfl, hm1, hb6⟩; have HM1 := Hd.mk hm1; have HB6 := Hd.mk (bel_then HB5.out hb6); have HBS6 := Hd.mk (bel_then HBS5.out hb6); clear hm1 hb6; go_wp2_with fail
  refine (sub_calls Af cf ((a + b) * (nl + nh) - a * (nl)) Ab cb (b * (nh)) _ HM1.out (HHIGH.out.to HBS6.out) HKAR.out.2 (by omega)).mono ?_; rintro e w7 ⟨Ag, cg, rfl, hm2, hb7⟩; have HM2 := Hd.mk hm2; have HB7 := Hd.mk (bel_then HB6.out hb7); have HBS7 := Hd.mk (bel_then HBS6.out hb7); clear hm2 hb7; go_wp2_with fail
  refine (words_calls Ag cg ((a + b) * (nl + nh) - a * (nl) - b * (nh)) k _ HM2.out (by omega) (by omega)).mono ?_; rintro e w8 ⟨Ah, ch, rfl, hw1, hb8⟩; have HW1 := Hd.mk hw1; have HB8 := Hd.mk (bel_then HB7.out hb8); have HBS8 := Hd.mk (bel_then HBS7.out hb8); clear hw1 hb8; go_wp2_with fail
  refine (add_calls Aa ca (a * (nl)) Ah ch (((a + b) * (nl + nh) - a * (nl) - b * (nh)) * B ^ k) _ (HLOW2.out.to HBS8.out) HW1.out (by omega) (by omega)).mono ?_; rintro e w9 ⟨Ai, ci, rfl, hs3, hb9⟩; have HS3 := Hd.mk hs3; have HB9 := Hd.mk (bel_then HB8.out hb9); have HBS9 := Hd.mk (bel_then HBS8.out hb9); clear hs3 hb9; go_wp2_with fail
  refine (show Calls Tryz.prog _ #[.slice Ab (ln (b * (nh))) cb, .int .i64 (2 * (k : Int))] w9 _ from by have c := words_calls Ab cb (b * (nh)) (2 * k) w9 (HHIGH.out.to HBS9.out) (by omega) (by omega); rw [show ((2 * k : Nat) : Int) = 2 * (k : Int) from by omega] at c; exact c).mono ?_; rintro e w10 ⟨Aj, cj, rfl, hw2, hb10⟩; have HW2 := Hd.mk hw2; have HB10 := Hd.mk (bel_then HB9.out hb10); have HS3 := Hd.mk (HS3.out.to hb10); clear hw2 hb10; go_wp2_with fail
  refine (add_calls Ai ci (a * (nl) + ((a + b) * (nl + nh) - a * (nl) - b * (nh)) * B ^ k) Aj cj (b * (nh) * B ^ (2 * k)) _ HS3.out HW2.out (by omega) (by omega)).mono ?_; rintro e w11 ⟨Al, cl, rfl, hs5, hb11⟩; have hpow : B ^ (2 * k) = B ^ k * B ^ k := by rw [Nat.two_mul, Nat.pow_add]
  have hend := HFIN.out; rw [← hpow] at hend; rw [hend] at hs5; have HS5 := Hd.mk hs5; have HB11 := Hd.mk (bel_then HB10.out hb11); have HEND := Hd.mk hend; clear hs5 hb11 hpow hend; go_wp2_with fail
  go_ret
  exact ⟨Al, cl, by rw [HEND.out]; rfl, HS5.out, HB11.out⟩
 by_cases hke : k ≤ ln n
 ·obtain ⟨nh, hnh⟩ : ∃ z : Nat, z = 0 := ⟨0, rfl⟩; have HN0 := Hd.mk (show n = n + B ^ k * nh by rw [hnh]; simp); have hc := norm_cut A2 c2 n k w HY.out hke; have hmod : n % B ^ k = n := Nat.mod_eq_of_lt (Nat.lt_of_lt_of_le (lt_pow_ln n) (Nat.pow_le_pow_right B_pos (by omega))); rw [hmod] at hc; have HC2 := Hd.mk hc; have HBL := Hd.mk (show NN w A2 k n from ⟨HY.out.1, by omega, by omega⟩); have hkn2 : ¬ (k : Int) < (ln n : Int) := by omega
  have hkn4 : (k : Int) ≤ (ln n : Int) := by omega
  have hkn3 : (k : Int) ≤ (c2 : Int) := by omega
  have HBHH := Hd.mk (show NN w (some ⟨w.heap.size, 0, none⟩) 0 nh from hnh ▸ NN.nil w (some ⟨w.heap.size, 0, none⟩) 0 (by omega)); have HLBH := Hd.mk (show ln nh = 0 from hnh ▸ ln_zero); clear hmod hc hnh; go_wp2_with (first | (go_at_call 78; refine (HC2.out _ (below_drewN (Below.refl _ _) _)).mono ?_; rintro e w' ⟨rfl, rfl⟩))
  have hn : n = n + B ^ k * nh := HN0.out; have lnl : ln n ≤ k := by omega
  have lnh : ln nh ≤ ln n - k := by rw [HLBH.out]; omega
  have lml := lma; have lmh : ln b ≤ ln m - k := Nat.le_of_eq HLAH.out; have ls1 := ln_add a b; have ls2 := ln_add (n) (nh); have hkar := kara_le a b (n) (nh); have hfin := kara m n a b (n) (nh) (B ^ k) HM.out hn; have lp1 := ln_mul a (n); have lp2 := ln_mul b (nh); have lp3 := ln_mul (a + b) (n + nh); have ld1 := ln_mono (Nat.sub_le ((a + b) * (n + nh)) (a * (n))); have ld2 := ln_mono (Nat.sub_le ((a + b) * (n + nh) - a * (n)) (b * (nh))); have HFIN := Hd.mk hfin; have HKAR := Hd.mk hkar; have lw1 := ln_mul ((a + b) * (n + nh) - a * (n) - b * (nh)) (B ^ k); have lw0 := ln_pow_le k; have lw2 := ln_mul (b * (nh)) (B ^ (2 * k)); have lw3 := ln_pow_le (2 * k); have ls4 := ln_add (a * (n)) (((a + b) * (n + nh) - a * (n) - b * (nh)) * B ^ k); clear hn hfin hkar; have HB0 := Hd.mk (below_alloc (below_drewN (Below.refl w.heap.size w) nq) (.cells #[] 46)); refine (H A1 k a A2 (k) (n) _ (HAL.out.to HB0.out) (HBL.out.to HB0.out) (by omega) (by omega) (by omega)).mono ?_; rintro e w1 ⟨Aa, ca, rfl, hlow, hb1⟩; have HLOW := Hd.mk hlow; have HB1 := Hd.mk (bel_then HB0.out hb1); clear hlow hb1; go_wp2_with fail
  refine (show Calls Tryz.prog _ #[.slice A3 (ln m - k) (c1 - k), .slice (some ⟨w.heap.size, 0, none⟩) (0) (0)] w1 _ from by have c := H A3 (c1 - k) b (some ⟨w.heap.size, 0, none⟩) (0) (nh) w1 (HAHH.out.to HB1.out) (HBHH.out.to HB1.out) (by omega) (by omega) (by omega); rw [HLAH.out, HLBH.out] at c; exact c).mono ?_; rintro e w2 ⟨Ab, cb, rfl, hhigh, hb2⟩; have HHIGH := Hd.mk hhigh; have HLOW2 := Hd.mk (HLOW.out.to hb2); have HB2 := Hd.mk (bel_then HB1.out hb2); clear hhigh hb2; go_wp2_with fail
  refine (show Calls Tryz.prog _ #[.slice A1 (ln a) k, .slice A3 (ln m - k) (c1 - k)] w2 _ from by have c := add_calls A1 k a A3 (c1 - k) b w2 (HAL.out.to HB2.out) (HAHH.out.to HB2.out) (by omega) (by omega); rw [HLAH.out] at c; exact c).mono ?_; rintro e w3 ⟨Ac, cc, rfl, hs1, hb3⟩; have HS1 := Hd.mk hs1; have HB3 := Hd.mk (bel_then HB2.out hb3); have HBS := Hd.mk hb3; clear hs1 hb3; go_wp2_with fail
  refine (show Calls Tryz.prog _ #[.slice A2 (ln n) (k), .slice (some ⟨w.heap.size, 0, none⟩) (0) (0)] w3 _ from by have c := add_calls A2 (k) (n) (some ⟨w.heap.size, 0, none⟩) (0) (nh) w3 (HBL.out.to HB3.out) (HBHH.out.to HB3.out) (by omega) (by omega); rw [HLBH.out] at c; exact c).mono ?_; rintro e w4 ⟨Ad, cd, rfl, hs2, hb4⟩; have HS2 := Hd.mk hs2; have HB4 := Hd.mk (bel_then HB3.out hb4); have HBS4 := Hd.mk (bel_then HBS.out hb4); have HS1 := Hd.mk (HS1.out.to hb4); clear hs2 hb4; go_wp2_with fail
  refine (H Ac cc (a + b) Ad cd (n + nh) _ HS1.out HS2.out (by omega) (by omega) (by omega)).mono ?_; rintro e w5 ⟨Ae, ce, rfl, hmid, hb5⟩; have HMID := Hd.mk hmid; have HB5 := Hd.mk (bel_then HB4.out hb5); have HBS5 := Hd.mk (bel_then HBS4.out hb5); clear hmid hb5; go_wp2_with fail
  refine (sub_calls Ae ce ((a + b) * (n + nh)) Aa ca (a * (n)) _ HMID.out (HLOW2.out.to HBS5.out) HKAR.out.1 (by omega)).mono ?_; rintro e w6 ⟨Af, cf, rfl, hm1, hb6⟩; have HM1 := Hd.mk hm1; have HB6 := Hd.mk (bel_then HB5.out hb6); have HBS6 := Hd.mk (bel_then HBS5.out hb6); clear hm1 hb6; go_wp2_with fail
  refine (sub_calls Af cf ((a + b) * (n + nh) - a * (n)) Ab cb (b * (nh)) _ HM1.out (HHIGH.out.to HBS6.out) HKAR.out.2 (by omega)).mono ?_; rintro e w7 ⟨Ag, cg, rfl, hm2, hb7⟩; have HM2 := Hd.mk hm2; have HB7 := Hd.mk (bel_then HB6.out hb7); have HBS7 := Hd.mk (bel_then HBS6.out hb7); clear hm2 hb7; go_wp2_with fail
  refine (words_calls Ag cg ((a + b) * (n + nh) - a * (n) - b * (nh)) k _ HM2.out (by omega) (by omega)).mono ?_; rintro e w8 ⟨Ah, ch, rfl, hw1, hb8⟩; have HW1 := Hd.mk hw1; have HB8 := Hd.mk (bel_then HB7.out hb8); have HBS8 := Hd.mk (bel_then HBS7.out hb8); clear hw1 hb8; go_wp2_with fail
  refine (add_calls Aa ca (a * (n)) Ah ch (((a + b) * (n + nh) - a * (n) - b * (nh)) * B ^ k) _ (HLOW2.out.to HBS8.out) HW1.out (by omega) (by omega)).mono ?_; rintro e w9 ⟨Ai, ci, rfl, hs3, hb9⟩; have HS3 := Hd.mk hs3; have HB9 := Hd.mk (bel_then HB8.out hb9); have HBS9 := Hd.mk (bel_then HBS8.out hb9); clear hs3 hb9; go_wp2_with fail
  refine (show Calls Tryz.prog _ #[.slice Ab (ln (b * (nh))) cb, .int .i64 (2 * (k : Int))] w9 _ from by have c := words_calls Ab cb (b * (nh)) (2 * k) w9 (HHIGH.out.to HBS9.out) (by omega) (by omega); rw [show ((2 * k : Nat) : Int) = 2 * (k : Int) from by omega] at c; exact c).mono ?_; rintro e w10 ⟨Aj, cj, rfl, hw2, hb10⟩; have HW2 := Hd.mk hw2; have HB10 := Hd.mk (bel_then HB9.out hb10); have HS3 := Hd.mk (HS3.out.to hb10); clear hw2 hb10; go_wp2_with fail
  refine (add_calls Ai ci (a * (n) + ((a + b) * (n + nh) - a * (n) - b * (nh)) * B ^ k) Aj cj (b * (nh) * B ^ (2 * k)) _ HS3.out HW2.out (by omega) (by omega)).mono ?_; rintro e w11 ⟨Al, cl, rfl, hs5, hb11⟩; have hpow : B ^ (2 * k) = B ^ k * B ^ k := by rw [Nat.two_mul, Nat.pow_add]
  have hend := HFIN.out; rw [← hpow] at hend; rw [hend] at hs5; have HS5 := Hd.mk hs5; have HB11 := Hd.mk (bel_then HB10.out hb11); have HEND := Hd.mk hend; clear hs5 hb11 hpow hend; go_wp2_with fail
  go_ret
  exact ⟨Al, cl, by rw [HEND.out]; rfl, HS5.out, HB11.out⟩
 obtain ⟨nh, hnh⟩ : ∃ z : Nat, z = 0 := ⟨0, rfl⟩; have HN0 := Hd.mk (show n = n + B ^ k * nh by rw [hnh]; simp); have hc := norm_cut A2 c2 n (ln n) w HY.out (Nat.le_refl _); have hmod : n % B ^ ln n = n := Nat.mod_eq_of_lt (lt_pow_ln n); rw [hmod] at hc; have HC2 := Hd.mk hc; have HBL := Hd.mk (show NN w A2 (ln n) n from ⟨HY.out.1, Nat.le_refl _, by omega⟩); have hkn2 : ¬ (k : Int) < (ln n : Int) := by omega
 have hkn4 : (ln n : Int) < (k : Int) := by omega
 have hkn3 : (ln n : Int) ≤ (c2 : Int) := by omega
 have HBHH := Hd.mk (show NN w (some ⟨w.heap.size, 0, none⟩) 0 nh from hnh ▸ NN.nil w (some ⟨w.heap.size, 0, none⟩) 0 (by omega)); have HLBH := Hd.mk (show ln nh = 0 from hnh ▸ ln_zero); clear hmod hc hnh; go_wp2_with (first | (go_at_call 78; refine (HC2.out _ (below_drewN (Below.refl _ _) _)).mono ?_; rintro e w' ⟨rfl, rfl⟩))
 have hn : n = n + B ^ k * nh := HN0.out; have lnl : ln n ≤ k := by omega
 have lnh : ln nh ≤ ln n - k := by rw [HLBH.out]; omega
 have lml := lma; have lmh : ln b ≤ ln m - k := Nat.le_of_eq HLAH.out; have ls1 := ln_add a b; have ls2 := ln_add (n) (nh); have hkar := kara_le a b (n) (nh); have hfin := kara m n a b (n) (nh) (B ^ k) HM.out hn; have lp1 := ln_mul a (n); have lp2 := ln_mul b (nh); have lp3 := ln_mul (a + b) (n + nh); have ld1 := ln_mono (Nat.sub_le ((a + b) * (n + nh)) (a * (n))); have ld2 := ln_mono (Nat.sub_le ((a + b) * (n + nh) - a * (n)) (b * (nh))); have HFIN := Hd.mk hfin; have HKAR := Hd.mk hkar; have lw1 := ln_mul ((a + b) * (n + nh) - a * (n) - b * (nh)) (B ^ k); have lw0 := ln_pow_le k; have lw2 := ln_mul (b * (nh)) (B ^ (2 * k)); have lw3 := ln_pow_le (2 * k); have ls4 := ln_add (a * (n)) (((a + b) * (n + nh) - a * (n) - b * (nh)) * B ^ k); clear hn hfin hkar; have HB0 := Hd.mk (below_alloc (below_drewN (Below.refl w.heap.size w) nq) (.cells #[] 46)); refine (H A1 k a A2 (ln n) (n) _ (HAL.out.to HB0.out) (HBL.out.to HB0.out) (by omega) (by omega) (by omega)).mono ?_; rintro e w1 ⟨Aa, ca, rfl, hlow, hb1⟩; have HLOW := Hd.mk hlow; have HB1 := Hd.mk (bel_then HB0.out hb1); clear hlow hb1; go_wp2_with fail
 refine (show Calls Tryz.prog _ #[.slice A3 (ln m - k) (c1 - k), .slice (some ⟨w.heap.size, 0, none⟩) (0) (0)] w1 _ from by have c := H A3 (c1 - k) b (some ⟨w.heap.size, 0, none⟩) (0) (nh) w1 (HAHH.out.to HB1.out) (HBHH.out.to HB1.out) (by omega) (by omega) (by omega); rw [HLAH.out, HLBH.out] at c; exact c).mono ?_; rintro e w2 ⟨Ab, cb, rfl, hhigh, hb2⟩; have HHIGH := Hd.mk hhigh; have HLOW2 := Hd.mk (HLOW.out.to hb2); have HB2 := Hd.mk (bel_then HB1.out hb2); clear hhigh hb2; go_wp2_with fail
 refine (show Calls Tryz.prog _ #[.slice A1 (ln a) k, .slice A3 (ln m - k) (c1 - k)] w2 _ from by have c := add_calls A1 k a A3 (c1 - k) b w2 (HAL.out.to HB2.out) (HAHH.out.to HB2.out) (by omega) (by omega); rw [HLAH.out] at c; exact c).mono ?_; rintro e w3 ⟨Ac, cc, rfl, hs1, hb3⟩; have HS1 := Hd.mk hs1; have HB3 := Hd.mk (bel_then HB2.out hb3); have HBS := Hd.mk hb3; clear hs1 hb3; go_wp2_with fail
 refine (show Calls Tryz.prog _ #[.slice A2 (ln n) (ln n), .slice (some ⟨w.heap.size, 0, none⟩) (0) (0)] w3 _ from by have c := add_calls A2 (ln n) (n) (some ⟨w.heap.size, 0, none⟩) (0) (nh) w3 (HBL.out.to HB3.out) (HBHH.out.to HB3.out) (by omega) (by omega); rw [HLBH.out] at c; exact c).mono ?_; rintro e w4 ⟨Ad, cd, rfl, hs2, hb4⟩; have HS2 := Hd.mk hs2; have HB4 := Hd.mk (bel_then HB3.out hb4); have HBS4 := Hd.mk (bel_then HBS.out hb4); have HS1 := Hd.mk (HS1.out.to hb4); clear hs2 hb4; go_wp2_with fail
 refine (H Ac cc (a + b) Ad cd (n + nh) _ HS1.out HS2.out (by omega) (by omega) (by omega)).mono ?_; rintro e w5 ⟨Ae, ce, rfl, hmid, hb5⟩; have HMID := Hd.mk hmid; have HB5 := Hd.mk (bel_then HB4.out hb5); have HBS5 := Hd.mk (bel_then HBS4.out hb5); clear hmid hb5; go_wp2_with fail
 refine (sub_calls Ae ce ((a + b) * (n + nh)) Aa ca (a * (n)) _ HMID.out (HLOW2.out.to HBS5.out) HKAR.out.1 (by omega)).mono ?_; rintro e w6 ⟨Af, cf, rfl, hm1, hb6⟩; have HM1 := Hd.mk hm1; have HB6 := Hd.mk (bel_then HB5.out hb6); have HBS6 := Hd.mk (bel_then HBS5.out hb6); clear hm1 hb6; go_wp2_with fail
 refine (sub_calls Af cf ((a + b) * (n + nh) - a * (n)) Ab cb (b * (nh)) _ HM1.out (HHIGH.out.to HBS6.out) HKAR.out.2 (by omega)).mono ?_; rintro e w7 ⟨Ag, cg, rfl, hm2, hb7⟩; have HM2 := Hd.mk hm2; have HB7 := Hd.mk (bel_then HB6.out hb7); have HBS7 := Hd.mk (bel_then HBS6.out hb7); clear hm2 hb7; go_wp2_with fail
 refine (words_calls Ag cg ((a + b) * (n + nh) - a * (n) - b * (nh)) k _ HM2.out (by omega) (by omega)).mono ?_; rintro e w8 ⟨Ah, ch, rfl, hw1, hb8⟩; have HW1 := Hd.mk hw1; have HB8 := Hd.mk (bel_then HB7.out hb8); have HBS8 := Hd.mk (bel_then HBS7.out hb8); clear hw1 hb8; go_wp2_with fail
 refine (add_calls Aa ca (a * (n)) Ah ch (((a + b) * (n + nh) - a * (n) - b * (nh)) * B ^ k) _ (HLOW2.out.to HBS8.out) HW1.out (by omega) (by omega)).mono ?_; rintro e w9 ⟨Ai, ci, rfl, hs3, hb9⟩; have HS3 := Hd.mk hs3; have HB9 := Hd.mk (bel_then HB8.out hb9); have HBS9 := Hd.mk (bel_then HBS8.out hb9); clear hs3 hb9; go_wp2_with fail
 refine (show Calls Tryz.prog _ #[.slice Ab (ln (b * (nh))) cb, .int .i64 (2 * (k : Int))] w9 _ from by have c := words_calls Ab cb (b * (nh)) (2 * k) w9 (HHIGH.out.to HBS9.out) (by omega) (by omega); rw [show ((2 * k : Nat) : Int) = 2 * (k : Int) from by omega] at c; exact c).mono ?_; rintro e w10 ⟨Aj, cj, rfl, hw2, hb10⟩; have HW2 := Hd.mk hw2; have HB10 := Hd.mk (bel_then HB9.out hb10); have HS3 := Hd.mk (HS3.out.to hb10); clear hw2 hb10; go_wp2_with fail
 refine (add_calls Ai ci (a * (n) + ((a + b) * (n + nh) - a * (n) - b * (nh)) * B ^ k) Aj cj (b * (nh) * B ^ (2 * k)) _ HS3.out HW2.out (by omega) (by omega)).mono ?_; rintro e w11 ⟨Al, cl, rfl, hs5, hb11⟩; have hpow : B ^ (2 * k) = B ^ k * B ^ k := by rw [Nat.two_mul, Nat.pow_add]
 have hend := HFIN.out; rw [← hpow] at hend; rw [hend] at hs5; have HS5 := Hd.mk hs5; have HB11 := Hd.mk (bel_then HB10.out hb11); have HEND := Hd.mk hend; clear hs5 hb11 hpow hend; go_wp2_with fail
 go_ret
 exact ⟨Al, cl, by rw [HEND.out]; rfl, HS5.out, HB11.out⟩
end Go.Proofs.YtdfhhceboacdcaaGreatDoor
