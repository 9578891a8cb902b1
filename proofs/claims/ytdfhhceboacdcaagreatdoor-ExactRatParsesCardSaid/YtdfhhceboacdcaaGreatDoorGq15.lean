/- Part 15 of the texts behind this claim. -/
import Derived.Great.BuildSlice
import Derived.Test.YtdfhhceboacdcaaGreatDoorGq6
import Derived.Test.YtdfhhceboacdcaaGreatDoorGq8
import Derived.Test.YtdfhhceboacdcaaGreatDoorGq10
import Derived.Test.YtdfhhceboacdcaaGreatDoorGq12
import Derived.Test.YtdfhhceboacdcaaGreatDoorGq13
import Derived.Test.YtdfhhceboacdcaaGreatDoorGq14
set_option linter.unusedVariables false
namespace Go.Proofs.YtdfhhceboacdcaaGreatDoor
open Go.RowKit
theorem gcd_both {a b : Nat} (ha : a % 2 = 0) (hb : b % 2 = 0) : Nat.gcd a b = Nat.gcd (a / 2) (b / 2) * 2 := by
 have h1 : a = 2 * (a / 2) := by omega
 have h2 : b = 2 * (b / 2) := by omega
 conv => lhs; rw [h1, h2, Nat.gcd_mul_left]
 omega
theorem coprime_two {b : Nat} (hb : b % 2 = 1) : Nat.Coprime 2 b := by
 unfold Nat.Coprime; rw [Nat.gcd_rec, hb]; rfl
theorem gcd_left {a b : Nat} (ha : a % 2 = 0) (hb : b % 2 = 1) : Nat.gcd (a / 2) b = Nat.gcd a b := by
 have h1 : a = 2 * (a / 2) := by omega
 conv => rhs; rw [h1]
 exact (Nat.Coprime.gcd_mul_left_cancel _ (coprime_two hb)).symm
theorem gcd_right {a b : Nat} (ha : a % 2 = 1) (hb : b % 2 = 0) : Nat.gcd a (b / 2) = Nat.gcd a b := by
 rw [Nat.gcd_comm, gcd_left hb ha, Nat.gcd_comm]
theorem gcd_sub {a b : Nat} (h : b ≤ a) : Nat.gcd (a - b) b = Nat.gcd a b := Nat.gcd_sub_self_left h
theorem NN.first {w : World} {A : Option Addr} {c n : Nat} (h : NN w A c n) (h0 : n ≠ 0) : ∃ ad, A = some ad ∧ w.cell? ad = some (.int .u32 ((n % 4294967296 : Nat) : Int)) := by
 obtain ⟨ad, e, hc⟩ := h.at_ (k := 0) (ln_pos.2 (by omega)); refine ⟨ad, e, ?_⟩; rw [show ad.add 0 = ad from by unfold Addr.add; rw [if_pos rfl]] at hc; rw [hc, dig_getD]; simp [B]
theorem and_one {x p : Nat} (hx : x < 4294967296) (h : x % 2 = p) : bits .and .u32 (x : Int) 1 = (p : Int) := by
 have := u32_and_nat x 1 (by omega) (by omega); rw [show ((1 : Nat) : Int) = 1 from rfl] at this; rw [this, Nat.and_one_is_mod, h]
theorem and_one0 {x : Nat} (hx : x < 4294967296) (h : x % 2 = 0) : bits .and .u32 (x : Int) 1 = 0 := and_one hx h
theorem and_one1 {x : Nat} (hx : x < 4294967296) (h : x % 2 = 1) : bits .and .u32 (x : Int) 1 = 1 := and_one hx h
set_option maxHeartbeats 2000000 in
set_option maxRecDepth 100000 in
theorem divisor_calls (A1 : Option Addr) (c1 n : Nat) (A2 : Option Addr) (c2 m : Nat) (w : World) (h1 : NN w A1 c1 n) (h2 : NN w A2 c2 m) (l1 : ln n ≤ 268435456) (l2 : ln m ≤ 268435456) :
  Calls Tryz.prog 64 #[.slice A1 (ln n) c1, .slice A2 (ln m) c2] w (RetN (Nat.gcd n m) w) := by
 by_cases hnm : n = 0 ∨ m = 0
 ·have hg : Nat.gcd n m = n + m := by rcases hnm with rfl | rfl <;> simp
  have hl : ln n = 0 ∨ ln m = 0 := hnm.imp (fun h => by rw [h, ln_zero]) (fun h => by rw [h, ln_zero]); rw [hg]; have HP := Hd.mk (fun W (hW : Below w.heap.size w W) => rplus_calls A1 c1 n A2 c2 m W (h1.to hW) (h2.to hW) (by omega) (by omega)); clear hnm hg h1 h2; obtain ⟨ln1, hln1⟩ : ∃ k, k = ln n := ⟨_, rfl⟩; obtain ⟨ln2, hln2⟩ : ∃ k, k = ln m := ⟨_, rfl⟩; rw [← hln1] at HP hl l1 ⊢; rw [← hln2] at HP hl l2 ⊢; clear hln1 hln2; by_cases ha : ln1 = 0
  ·subst ha; go_enter Tryz.func64, Tryz.ntmps64
   go_wp2_with fail
   refine (HP.out _ (Below.refl _ _)).mono ?_; rintro e w1 ⟨A3, c3, rfl, hn3, hb3⟩; have HN3 := Hd.mk hn3; clear hn3; go_wp2_with fail
   go_ret
   exact ⟨A3, c3, rfl, HN3.out, hb3⟩
  have hb : ln2 = 0 := by omega
  subst hb; have hne : ((ln1 : Int) == 0) = false := by rw [beq_eq_false_iff_ne]; omega
  clear hl; go_enter Tryz.func64, Tryz.ntmps64
  go_wp2_with fail
  refine (HP.out _ (Below.refl _ _)).mono ?_; rintro e w1 ⟨A3, c3, rfl, hn3, hb3⟩; have HN3 := Hd.mk hn3; clear hn3; go_wp2_with fail
  go_ret
  exact ⟨A3, c3, rfl, HN3.out, hb3⟩
 have hn0 : n ≠ 0 := fun h => hnm (.inl h)
 have hm0 : m ≠ 0 := fun h => hnm (.inr h)
 have hne1 : ((ln n : Int) == 0) = false := by rw [beq_eq_false_iff_ne]; have := ln_pos.2 (show 0 < n by omega); omega
 have hne2 : ((ln m : Int) == 0) = false := by rw [beq_eq_false_iff_ne]; have := ln_pos.2 (show 0 < m by omega); omega
 have HX := Hd.mk h1; have HY := Hd.mk h2; have HN0 := Hd.mk hn0; have HM0 := Hd.mk hm0; have hlog : n < 2 ^ (32 * ln n) := by have := lt_pow_ln n; rw [show B = 2 ^ 32 from rfl, ← Nat.pow_mul] at this; exact this
 have HLOG := Hd.mk hlog; clear h1 h2 hnm hn0 hm0 hlog; go_enter Tryz.func64, Tryz.ntmps64
 go_wp2_with fail
 clear hne1 hne2; go_loopg [0, 1, 5] n (fun g s0 s1 s5 wr => ∃ (a b t : Nat) (A : Option Addr) (c : Nat) (A' : Option Addr) (c' : Nat), s0 = .slice A (ln a) c ∧ s1 = .slice A' (ln b) c' ∧ s5 = .int .i64 (t : Int) ∧ NN wr A c a ∧ NN wr A' c' b ∧ a ≠ 0 ∧ b ≠ 0 ∧ a * 2 ^ t = n ∧ b ≤ m ∧ Nat.gcd a b * 2 ^ t = Nat.gcd n m ∧ a ≤ g ∧ Below w.heap.size w wr)
 case atStart => exact ⟨n, m, 0, A1, c1, A2, c2, rfl, rfl, rfl, HX.out, HY.out, HN0.out, HM0.out, by simp, Nat.le_refl _, by simp, Nat.le_refl _, Below.refl _ _⟩
 case round =>
  obtain ⟨a, b, t, A, c, A', c', rfl, rfl, rfl, hna, hnb, ha0, hb0, hat, hbm, hgt, hag, hbel⟩ := hrel; have HA := Hd.mk hna; have HBb := Hd.mk hnb; have HAT := Hd.mk hat; have HGT := Hd.mk hgt; have HB := Hd.mk hbel
  have htl : t ≤ 8589934592 := by
   have h1 : 2 ^ t ≤ n := by rw [← hat]; exact Nat.le_mul_of_pos_left _ (by omega)
   have h2 := Nat.lt_of_le_of_lt h1 HLOG.out; have h3 := (Nat.pow_lt_pow_iff_right (a := 2) (by omega)).1 h2; omega
  have han : a ≤ n := by rw [← hat]; exact Nat.le_mul_of_pos_right _ (Nat.pow_pos (by omega))
  have hla : ln a ≤ 268435456 := Nat.le_trans (ln_mono han) l1; have hlb : ln b ≤ 268435456 := Nat.le_trans (ln_mono hbm) l2; obtain ⟨ad, rfl, hca⟩ := hna.first ha0; obtain ⟨bd, rfl, hcb⟩ := hnb.first hb0; have hla0 : 0 < ln a := ln_pos.2 (by omega); have hlb0 : 0 < ln b := ln_pos.2 (by omega); clear hna hnb hat hgt hbel; have HA0 := Hd.mk ha0; have HB0 := Hd.mk hb0; clear ha0 hb0; obtain ⟨xa, hxa⟩ : ∃ x, x = a % 4294967296 := ⟨_, rfl⟩; obtain ⟨xb, hxb⟩ : ∃ x, x = b % 4294967296 := ⟨_, rfl⟩; rw [← hxa] at hca; rw [← hxb] at hcb; have hxal : xa < 4294967296 := by omega
  have hxbl : xb < 4294967296 := by omega
  by_cases hpa : a % 2 = 0
  ·have hqa : bits .and .u32 (xa : Int) 1 = 0 := and_one0 hxal (by omega); by_cases hpb : b % 2 = 0
   ·have hqb : bits .and .u32 (xb : Int) 1 = 0 := and_one0 hxbl (by omega); have hgb := gcd_both hpa hpb
    have hab : a / 2 * 2 ^ (t + 1) = n := by
     rw [← HAT.out, Nat.pow_succ, Nat.mul_comm (2 ^ t), ← Nat.mul_assoc, show a / 2 * 2 = a from by omega]
    have hgg : Nat.gcd (a / 2) (b / 2) * 2 ^ (t + 1) = Nat.gcd n m := by
     rw [← HGT.out, hgb, Nat.pow_succ, Nat.mul_comm (2 ^ t), ← Nat.mul_assoc]
    have h3 : a / 2 ≠ 0 := by have := HA0.out; omega
    have h4 : b / 2 ≠ 0 := by have := HB0.out; omega
    have H1 := Hd.mk hab; have H2 := Hd.mk hgg; have H3 := Hd.mk h3; have H4 := Hd.mk h4; clear hxa hxb hpa hpb hgb hab hgg h3 h4; go_wp2_with fail
    refine (rhalf_calls (some ad) c a _ HA.out (by omega)).mono ?_; rintro e w1 ⟨A3, c3, rfl, hn3, hb3⟩; have HN3 := Hd.mk hn3; have HB3 := Hd.mk hb3; clear hn3 hb3; go_wp2_with fail
    refine (rhalf_calls (some bd) c' b _ (HBb.out.to HB3.out) (by omega)).mono ?_; rintro e w2 ⟨A4, c4, rfl, hn4, hb4⟩; have HN4 := Hd.mk hn4; have HB4 := Hd.mk hb4; clear hn4 hb4; go_wp2_with fail
    go_roundg (a / 2)
    case measure => have := HA0.out; omega
    case rel => exact ⟨a / 2, b / 2, t + 1, A3, c3, A4, c4, rfl, rfl, by go_num, HN3.out.to HB4.out, HN4.out, H3.out, H4.out, H1.out, by omega, H2.out, Nat.le_refl _, bel_then HB.out (bel_then HB3.out HB4.out)⟩
   have hqb : bits .and .u32 (xb : Int) 1 = 1 := and_one1 hxbl (by omega); have HPB : Hd (a % 2 = 1 ∨ b % 2 = 1) := ⟨.inr (by omega)⟩; clear hxa hxb hpa hpb; go_wp2_with fail
   clear hca hcb hqa hqb; go_loopg [0, 1] (a + b) (fun g s0 s1 wr => ∃ (a' b' : Nat) (A : Option Addr) (c : Nat) (A' : Option Addr) (c' : Nat), s0 = .slice A (ln a') c ∧ s1 = .slice A' (ln b') c' ∧ NN wr A c a' ∧ NN wr A' c' b' ∧ b' ≠ 0 ∧ (a' % 2 = 1 ∨ b' % 2 = 1) ∧ Nat.gcd a' b' = Nat.gcd a b ∧ ln a' ≤ 268435456 ∧ ln b' ≤ 268435456 ∧ a' + b' ≤ g ∧ Below w.heap.size w wr)
   case atStart => exact ⟨a, b, some ad, c, some bd, c', rfl, rfl, HA.out, HBb.out, HB0.out, HPB.out, rfl, hla, hlb, Nat.le_refl _, HB.out⟩
   case round => as_aux_lemma =>
    obtain ⟨x, y, A3, c3, A4, c4, rfl, rfl, hnx, hny, hy0, hpar, hgxy, hlx, hly, hsum, hbel⟩ := hrel; have HX1 := Hd.mk hnx; have HY1 := Hd.mk hny; have HY0 := Hd.mk hy0; have HPAR := Hd.mk hpar; have HGXY := Hd.mk hgxy; have HSUM := Hd.mk hsum; have HB1 := Hd.mk hbel; clear hnx hny hy0 hpar hgxy hsum hbel; obtain ⟨w1, hw1⟩ : ∃ w1 : World, w1 = wr := ⟨_, rfl⟩; rw [← hw1] at HX1 HY1 HB1 ⊢; clear hw1; by_cases hx0 : x = 0
    ·subst hx0; have hyg : y * 2 ^ t = Nat.gcd n m := by rw [← HGT.out, ← HGXY.out, Nat.gcd_zero_left]
     have HYG := Hd.mk hyg; have hl0 : ln 0 = 0 := ln_zero; rw [hl0]; clear hyg hl0 hlx; go_wp2_with fail
     go_loopw [1, 62] (fun s1 s62 wr => ∃ (j : Nat) (A : Option Addr) (c : Nat), j ≤ t ∧ s62 = .int .i64 (j : Int) ∧ s1 = .slice A (ln (y * 2 ^ j)) c ∧ NN wr A c (y * 2 ^ j) ∧ Below w.heap.size w wr) (fun _ s62 _ => t - (intOf s62).toNat)
     case atStart => exact ⟨0, A4, c4, Nat.zero_le _, rfl, by simp, by simpa using HY1.out, HB1.out⟩
     case round =>
      obtain ⟨j, A5, c5, hjt, rfl, rfl, hn5, hbel⟩ := hrel; have HN5 := Hd.mk hn5; have HB5 := Hd.mk hbel; clear hn5 hbel; have hdb : y * 2 ^ j + y * 2 ^ j = y * 2 ^ (j + 1) := by rw [Nat.pow_succ, Nat.mul_comm (2 ^ j), ← Nat.mul_assoc, Nat.mul_comm y 2, Nat.mul_assoc]; omega
      have hlb2 : ln (y * 2 ^ j) ≤ 268435456 := by
       refine Nat.le_trans (ln_mono ?_) l1; have h1 : y * 2 ^ j ≤ y * 2 ^ t := Nat.mul_le_mul_left _ (Nat.pow_le_pow_right (by omega) hjt); have h2 : Nat.gcd n m ≤ n := Nat.gcd_le_left _ (by have := HN0.out; omega); have := HYG.out; omega
      by_cases hlt : j < t
      ·have hlt' : (j : Int) < (t : Int) := by omega
       have HP := Hd.mk (rplus_calls A5 c5 (y * 2 ^ j) A5 c5 (y * 2 ^ j) wr HN5.out HN5.out (by omega) (by omega)); rw [hdb] at HP; clear hdb; go_wp2_with fail
       refine HP.out.mono ?_; rintro e w1 ⟨A6, c6, rfl, hn6, hb6⟩; have HN6 := Hd.mk hn6; clear hn6; go_wp2_with fail
       go_roundw
       case rel => exact ⟨j + 1, A6, c6, by omega, by go_num, rfl, HN6.out, bel_then HB5.out hb6⟩
       case measure => simp [intOf]; omega
      have hje : j = t := by omega
      subst hje; rw [HYG.out] at HN5 ⊢; clear hdb; go_wp2_with fail
      go_ret
      exact ⟨A5, c5, rfl, HN5.out, HB5.out⟩
    have hlx0 : (0 : Int) < (ln x : Int) := by have := ln_pos.2 (show 0 < x by omega); omega
    have hdx : decide (0 < ln x) = true := decide_eq_true (ln_pos.2 (by omega)); have HX0 := Hd.mk hx0; clear hx0; go_wp2_with fail
    go_loopg [0] x (fun g s0 wr => ∃ (x' : Nat) (A : Option Addr) (c : Nat), s0 = .slice A (ln x') c ∧ NN wr A c x' ∧ x' ≠ 0 ∧ (x' % 2 = 1 ∨ y % 2 = 1) ∧ Nat.gcd x' y = Nat.gcd a b ∧ x' ≤ x ∧ x' ≤ g ∧ Below w1.heap.size w1 wr)
    case atStart => exact ⟨x, A3, c3, rfl, HX1.out, HX0.out, HPAR.out, HGXY.out, Nat.le_refl _, Nat.le_refl _, Below.refl _ _⟩
    case round =>
     obtain ⟨x', A5, c5, rfl, hn5, hx0', hpar', hgx', hxx, hxg, hbel⟩ := hrel; obtain ⟨xd, rfl, hcx⟩ := hn5.first hx0'; have hlx1 : 0 < ln x' := ln_pos.2 (by omega); have hlx2 : ln x' ≤ 268435456 := Nat.le_trans (ln_mono hxx) hlx; have HN5 := Hd.mk hn5; have HX5 := Hd.mk hx0'; have HP5 := Hd.mk hpar'; have HG5 := Hd.mk hgx'; have HXX := Hd.mk hxx; have HXG := Hd.mk hxg; have HB5 := Hd.mk hbel; obtain ⟨xa, hxa⟩ : ∃ k, k = x' % 4294967296 := ⟨_, rfl⟩; rw [← hxa] at hcx; have hxal : xa < 4294967296 := by omega
     by_cases hpx : x' % 2 = 0
     ·have hqa : bits .and .u32 (xa : Int) 1 = 0 := and_one0 hxal (by omega); have hg := gcd_left (a := x') (b := y) hpx (by omega); have h0 : x' / 2 ≠ 0 := by omega
      have HG := Hd.mk hg; have H0 := Hd.mk h0; have HQ : Hd (x' / 2 % 2 = 1 ∨ y % 2 = 1) := ⟨.inr (by omega)⟩; clear hn5 hx0' hpar' hgx' hxx hxg hbel hxa hpx hg h0; go_wp2_with fail
      refine (rhalf_calls (some xd) c5 x' _ HN5.out (by omega)).mono ?_; rintro e w3 ⟨A6, c6, rfl, hn6, hb6⟩; have HN6 := Hd.mk hn6; clear hn6 hcx; go_wp2_with fail
      go_roundg (x' / 2)
      case measure => have := HXG.out; have := HX5.out; omega
      case rel => exact ⟨x' / 2, A6, c6, rfl, HN6.out, H0.out, HQ.out, by rw [HG.out]; exact HG5.out, by have := HXX.out; omega, Nat.le_refl _, bel_then HB5.out hb6⟩
     have hqa : bits .and .u32 (xa : Int) 1 = 1 := and_one1 hxal (by omega); have HPX : Hd (x' % 2 = 1) := ⟨by omega⟩; clear hn5 hx0' hpar' hgx' hxx hxg hbel hxa hpx; go_wp2_with fail
     clear hcx hqa; obtain ⟨w3, hw3⟩ : ∃ w3 : World, w3 = wr := ⟨_, rfl⟩; rw [← hw3] at HN5 HB5 ⊢; clear hw3; go_loopg [1] y (fun g s1 wr => ∃ (y' : Nat) (A : Option Addr) (c : Nat), s1 = .slice A (ln y') c ∧ NN wr A c y' ∧ y' ≠ 0 ∧ Nat.gcd x' y' = Nat.gcd a b ∧ y' ≤ y ∧ y' ≤ g ∧ Below w3.heap.size w3 wr)
     case atStart => exact ⟨y, A4, c4, rfl, HY1.out.to HB5.out, HY0.out, HG5.out, Nat.le_refl _, Nat.le_refl _, Below.refl _ _⟩
     case round =>
      obtain ⟨y', A7, c7, rfl, hn7, hy0', hgy', hyy, hyg, hbel⟩ := hrel; obtain ⟨yd, rfl, hcy⟩ := hn7.first hy0'; have hly1 : 0 < ln y' := ln_pos.2 (by omega); have hly2 : ln y' ≤ 268435456 := Nat.le_trans (ln_mono hyy) hly; have HN7 := Hd.mk hn7; have HY7 := Hd.mk hy0'; have HG7 := Hd.mk hgy'; have HYY := Hd.mk hyy; have HYG := Hd.mk hyg; have HB7 := Hd.mk hbel; obtain ⟨ya, hya⟩ : ∃ k, k = y' % 4294967296 := ⟨_, rfl⟩; rw [← hya] at hcy; have hyal : ya < 4294967296 := by omega
      by_cases hpy : y' % 2 = 0
      ·have hqb : bits .and .u32 (ya : Int) 1 = 0 := and_one0 hyal (by omega); have HG := Hd.mk (gcd_right (a := x') (b := y') HPX.out hpy); have H0 : Hd (y' / 2 ≠ 0) := ⟨by omega⟩; clear hn7 hy0' hgy' hyy hyg hbel hya hpy; go_wp2_with fail
       refine (rhalf_calls (some yd) c7 y' _ HN7.out (by omega)).mono ?_; rintro e w4 ⟨A8, c8, rfl, hn8, hb8⟩; have HN8 := Hd.mk hn8; clear hn8 hcy; go_wp2_with fail
       go_roundg (y' / 2)
       case measure => have := HYG.out; have := HY7.out; omega
       case rel => exact ⟨y' / 2, A8, c8, rfl, HN8.out, H0.out, by rw [HG.out]; exact HG7.out, by have := HYY.out; omega, Nat.le_refl _, bel_then HB7.out hb8⟩
      have hqb : bits .and .u32 (ya : Int) 1 = 1 := and_one1 hyal (by omega); have HPY : Hd (y' % 2 = 1) := ⟨by omega⟩; clear hn7 hy0' hgy' hyy hyg hbel hya hpy; go_wp2_with fail
      clear hcy hqb; refine (order_calls (some xd) c5 x' (some yd) c7 y' _ (HN5.out.to HB7.out) HN7.out).mono ?_; rintro e w5 ⟨rfl, q5, rfl⟩; have HNX : Hd (NN (wr.drewN q5) (some xd) c5 x') := ⟨(HN5.out.to HB7.out).to (below_drewN (Below.refl _ _) _)⟩; have HNY : Hd (NN (wr.drewN q5) (some yd) c7 y') := ⟨HN7.out.to (below_drewN (Below.refl _ _) _)⟩; have HBW : Hd (Below w.heap.size w (wr.drewN q5)) := ⟨below_drewN (bel_then (bel_then HB1.out HB5.out) HB7.out) _⟩; by_cases hlt : x' < y'
      ·rw [cmpv_lt hlt]; have hgs := gcd_sub (Nat.le_of_lt hlt); have HGS : Hd (Nat.gcd (y' - x') x' = Nat.gcd a b) := ⟨by rw [hgs, Nat.gcd_comm]; exact HG7.out⟩; have HP := Hd.mk (rless_calls (some yd) c7 y' (some xd) c5 x' _ HNY.out HNX.out (Nat.le_of_lt hlt) (by omega)); have HLT := Hd.mk hlt; have hld : ln (y' - x') ≤ 268435456 := Nat.le_trans (ln_mono (Nat.sub_le _ _)) hly2; clear hgs hlt; go_wp2_with fail
       refine HP.out.mono ?_; rintro e w6 ⟨A9, c9, rfl, hn9, hb9⟩; have HN9 := Hd.mk hn9; clear hn9; go_wp2_with fail
       go_roundg (y' - x' + x')
       case measure => have := HSUM.out; have := HXX.out; have := HYY.out; have := HX5.out; have := HLT.out; omega
       case rel => exact ⟨y' - x', x', A9, c9, some xd, c5, rfl, rfl, HN9.out, HNX.out.to hb9, HX5.out, .inr HPX.out, HGS.out, hld, hlx2, Nat.le_refl _, bel_then HBW.out hb9⟩
      have hge := cmpv_ge hlt; obtain ⟨cv, hcv⟩ : ∃ cv, cv = cmpv x' y' := ⟨_, rfl⟩; rw [← hcv] at hge ⊢; have hgs := gcd_sub (a := x') (b := y') (by omega); have HGS : Hd (Nat.gcd (x' - y') y' = Nat.gcd a b) := ⟨by rw [hgs]; exact HG7.out⟩; have HP := Hd.mk (rless_calls (some xd) c5 x' (some yd) c7 y' _ HNX.out HNY.out (by omega) (by omega)); have HLT := Hd.mk hlt; have hld : ln (x' - y') ≤ 268435456 := Nat.le_trans (ln_mono (Nat.sub_le _ _)) hlx2; clear hgs hlt hcv; go_wp2_with fail
      refine HP.out.mono ?_; rintro e w6 ⟨A9, c9, rfl, hn9, hb9⟩; have HN9 := Hd.mk hn9; clear hn9; go_wp2_with fail
      go_roundg (x' - y' + y')
      case measure => have := HSUM.out; have := HXX.out; have := HYY.out; have := HY7.out; have := HLT.out; omega
      case rel => exact ⟨x' - y', y', A9, c9, some yd, c7, rfl, rfl, HN9.out, HNY.out.to hb9, HY7.out, .inr HPY.out, HGS.out, hld, hly2, Nat.le_refl _, bel_then HBW.out hb9⟩
  have hqa : bits .and .u32 (xa : Int) 1 = 1 := and_one1 hxal (by omega); have HPB : Hd (a % 2 = 1 ∨ b % 2 = 1) := ⟨.inl (by omega)⟩; clear hxa hxb hpa; go_wp2_with fail
  clear hca hcb hqa; go_loopg [0, 1] (a + b) (fun g s0 s1 wr => ∃ (a' b' : Nat) (A : Option Addr) (c : Nat) (A' : Option Addr) (c' : Nat), s0 = .slice A (ln a') c ∧ s1 = .slice A' (ln b') c' ∧ NN wr A c a' ∧ NN wr A' c' b' ∧ b' ≠ 0 ∧ (a' % 2 = 1 ∨ b' % 2 = 1) ∧ Nat.gcd a' b' = Nat.gcd a b ∧ ln a' ≤ 268435456 ∧ ln b' ≤ 268435456 ∧ a' + b' ≤ g ∧ Below w.heap.size w wr)
  case atStart => exact ⟨a, b, some ad, c, some bd, c', rfl, rfl, HA.out, HBb.out, HB0.out, HPB.out, rfl, hla, hlb, Nat.le_refl _, HB.out⟩
  case round => as_aux_lemma =>
   obtain ⟨x, y, A3, c3, A4, c4, rfl, rfl, hnx, hny, hy0, hpar, hgxy, hlx, hly, hsum, hbel⟩ := hrel; have HX1 := Hd.mk hnx; have HY1 := Hd.mk hny; have HY0 := Hd.mk hy0; have HPAR := Hd.mk hpar; have HGXY := Hd.mk hgxy; have HSUM := Hd.mk hsum; have HB1 := Hd.mk hbel; clear hnx hny hy0 hpar hgxy hsum hbel; obtain ⟨w1, hw1⟩ : ∃ w1 : World, w1 = wr := ⟨_, rfl⟩; rw [← hw1] at HX1 HY1 HB1 ⊢; clear hw1; by_cases hx0 : x = 0
   ·subst hx0; have hyg : y * 2 ^ t = Nat.gcd n m := by rw [← HGT.out, ← HGXY.out, Nat.gcd_zero_left]
    have HYG := Hd.mk hyg; have hl0 : ln 0 = 0 := ln_zero; rw [hl0]; clear hyg hl0 hlx; go_wp2_with fail
    go_loopw [1, 62] (fun s1 s62 wr => ∃ (j : Nat) (A : Option Addr) (c : Nat), j ≤ t ∧ s62 = .int .i64 (j : Int) ∧ s1 = .slice A (ln (y * 2 ^ j)) c ∧ NN wr A c (y * 2 ^ j) ∧ Below w.heap.size w wr) (fun _ s62 _ => t - (intOf s62).toNat)
    case atStart => exact ⟨0, A4, c4, Nat.zero_le _, rfl, by simp, by simpa using HY1.out, HB1.out⟩
    case round =>
     obtain ⟨j, A5, c5, hjt, rfl, rfl, hn5, hbel⟩ := hrel; have HN5 := Hd.mk hn5; have HB5 := Hd.mk hbel; clear hn5 hbel; have hdb : y * 2 ^ j + y * 2 ^ j = y * 2 ^ (j + 1) := by rw [Nat.pow_succ, Nat.mul_comm (2 ^ j), ← Nat.mul_assoc, Nat.mul_comm y 2, Nat.mul_assoc]; omega
     have hlb2 : ln (y * 2 ^ j) ≤ 268435456 := by
      refine Nat.le_trans (ln_mono ?_) l1; have h1 : y * 2 ^ j ≤ y * 2 ^ t := Nat.mul_le_mul_left _ (Nat.pow_le_pow_right (by omega) hjt); have h2 : Nat.gcd n m ≤ n := Nat.gcd_le_left _ (by have := HN0.out; omega); have := HYG.out; omega
     by_cases hlt : j < t
     ·have hlt' : (j : Int) < (t : Int) := by omega
      have HP := Hd.mk (rplus_calls A5 c5 (y * 2 ^ j) A5 c5 (y * 2 ^ j) wr HN5.out HN5.out (by omega) (by omega)); rw [hdb] at HP; clear hdb; go_wp2_with fail
      refine HP.out.mono ?_; rintro e w1 ⟨A6, c6, rfl, hn6, hb6⟩; have HN6 := Hd.mk hn6; clear hn6; go_wp2_with fail
      go_roundw
      case rel => exact ⟨j + 1, A6, c6, by omega, by go_num, rfl, HN6.out, bel_then HB5.out hb6⟩
      case measure => simp [intOf]; omega
     have hje : j = t := by omega
     subst hje; rw [HYG.out] at HN5 ⊢; clear hdb; go_wp2_with fail
     go_ret
     exact ⟨A5, c5, rfl, HN5.out, HB5.out⟩
   have hlx0 : (0 : Int) < (ln x : Int) := by have := ln_pos.2 (show 0 < x by omega); omega
   have hdx : decide (0 < ln x) = true := decide_eq_true (ln_pos.2 (by omega)); have HX0 := Hd.mk hx0; clear hx0; go_wp2_with fail
   go_loopg [0] x (fun g s0 wr => ∃ (x' : Nat) (A : Option Addr) (c : Nat), s0 = .slice A (ln x') c ∧ NN wr A c x' ∧ x' ≠ 0 ∧ (x' % 2 = 1 ∨ y % 2 = 1) ∧ Nat.gcd x' y = Nat.gcd a b ∧ x' ≤ x ∧ x' ≤ g ∧ Below w1.heap.size w1 wr)
   case atStart => exact ⟨x, A3, c3, rfl, HX1.out, HX0.out, HPAR.out, HGXY.out, Nat.le_refl _, Nat.le_refl _, Below.refl _ _⟩
   case round =>
    obtain ⟨x', A5, c5, rfl, hn5, hx0', hpar', hgx', hxx, hxg, hbel⟩ := hrel; obtain ⟨xd, rfl, hcx⟩ := hn5.first hx0'; have hlx1 : 0 < ln x' := ln_pos.2 (by omega); have hlx2 : ln x' ≤ 268435456 := Nat.le_trans (ln_mono hxx) hlx; have HN5 := Hd.mk hn5; have HX5 := Hd.mk hx0'; have HP5 := Hd.mk hpar'; have HG5 := Hd.mk hgx'; have HXX := Hd.mk hxx; have HXG := Hd.mk hxg; have HB5 := Hd.mk hbel; obtain ⟨xa, hxa⟩ : ∃ k, k = x' % 4294967296 := ⟨_, rfl⟩; rw [← hxa] at hcx; have hxal : xa < 4294967296 := by omega
    by_cases hpx : x' % 2 = 0
    ·have hqa : bits .and .u32 (xa : Int) 1 = 0 := and_one0 hxal (by omega); have hg := gcd_left (a := x') (b := y) hpx (by omega); have h0 : x' / 2 ≠ 0 := by omega
     have HG := Hd.mk hg; have H0 := Hd.mk h0; have HQ : Hd (x' / 2 % 2 = 1 ∨ y % 2 = 1) := ⟨.inr (by omega)⟩; clear hn5 hx0' hpar' hgx' hxx hxg hbel hxa hpx hg h0; go_wp2_with fail
     refine (rhalf_calls (some xd) c5 x' _ HN5.out (by omega)).mono ?_; rintro e w3 ⟨A6, c6, rfl, hn6, hb6⟩; have HN6 := Hd.mk hn6; clear hn6 hcx; go_wp2_with fail
     go_roundg (x' / 2)
     case measure => have := HXG.out; have := HX5.out; omega
     case rel => exact ⟨x' / 2, A6, c6, rfl, HN6.out, H0.out, HQ.out, by rw [HG.out]; exact HG5.out, by have := HXX.out; omega, Nat.le_refl _, bel_then HB5.out hb6⟩
    have hqa : bits .and .u32 (xa : Int) 1 = 1 := and_one1 hxal (by omega); have HPX : Hd (x' % 2 = 1) := ⟨by omega⟩; clear hn5 hx0' hpar' hgx' hxx hxg hbel hxa hpx; go_wp2_with fail
    clear hcx hqa; obtain ⟨w3, hw3⟩ : ∃ w3 : World, w3 = wr := ⟨_, rfl⟩; rw [← hw3] at HN5 HB5 ⊢; clear hw3; go_loopg [1] y (fun g s1 wr => ∃ (y' : Nat) (A : Option Addr) (c : Nat), s1 = .slice A (ln y') c ∧ NN wr A c y' ∧ y' ≠ 0 ∧ Nat.gcd x' y' = Nat.gcd a b ∧ y' ≤ y ∧ y' ≤ g ∧ Below w3.heap.size w3 wr)
    case atStart => exact ⟨y, A4, c4, rfl, HY1.out.to HB5.out, HY0.out, HG5.out, Nat.le_refl _, Nat.le_refl _, Below.refl _ _⟩
    case round =>
     obtain ⟨y', A7, c7, rfl, hn7, hy0', hgy', hyy, hyg, hbel⟩ := hrel; obtain ⟨yd, rfl, hcy⟩ := hn7.first hy0'; have hly1 : 0 < ln y' := ln_pos.2 (by omega); have hly2 : ln y' ≤ 268435456 := Nat.le_trans (ln_mono hyy) hly; have HN7 := Hd.mk hn7; have HY7 := Hd.mk hy0'; have HG7 := Hd.mk hgy'; have HYY := Hd.mk hyy; have HYG := Hd.mk hyg; have HB7 := Hd.mk hbel; obtain ⟨ya, hya⟩ : ∃ k, k = y' % 4294967296 := ⟨_, rfl⟩; rw [← hya] at hcy; have hyal : ya < 4294967296 := by omega
     by_cases hpy : y' % 2 = 0
     ·have hqb : bits .and .u32 (ya : Int) 1 = 0 := and_one0 hyal (by omega); have HG := Hd.mk (gcd_right (a := x') (b := y') HPX.out hpy); have H0 : Hd (y' / 2 ≠ 0) := ⟨by omega⟩; clear hn7 hy0' hgy' hyy hyg hbel hya hpy; go_wp2_with fail
      refine (rhalf_calls (some yd) c7 y' _ HN7.out (by omega)).mono ?_; rintro e w4 ⟨A8, c8, rfl, hn8, hb8⟩; have HN8 := Hd.mk hn8; clear hn8 hcy; go_wp2_with fail
      go_roundg (y' / 2)
      case measure => have := HYG.out; have := HY7.out; omega
      case rel => exact ⟨y' / 2, A8, c8, rfl, HN8.out, H0.out, by rw [HG.out]; exact HG7.out, by have := HYY.out; omega, Nat.le_refl _, bel_then HB7.out hb8⟩
     have hqb : bits .and .u32 (ya : Int) 1 = 1 := and_one1 hyal (by omega); have HPY : Hd (y' % 2 = 1) := ⟨by omega⟩; clear hn7 hy0' hgy' hyy hyg hbel hya hpy; go_wp2_with fail
     clear hcy hqb; refine (order_calls (some xd) c5 x' (some yd) c7 y' _ (HN5.out.to HB7.out) HN7.out).mono ?_; rintro e w5 ⟨rfl, q5, rfl⟩; have HNX : Hd (NN (wr.drewN q5) (some xd) c5 x') := ⟨(HN5.out.to HB7.out).to (below_drewN (Below.refl _ _) _)⟩; have HNY : Hd (NN (wr.drewN q5) (some yd) c7 y') := ⟨HN7.out.to (below_drewN (Below.refl _ _) _)⟩; have HBW : Hd (Below w.heap.size w (wr.drewN q5)) := ⟨below_drewN (bel_then (bel_then HB1.out HB5.out) HB7.out) _⟩; by_cases hlt : x' < y'
     ·rw [cmpv_lt hlt]; have hgs := gcd_sub (Nat.le_of_lt hlt); have HGS : Hd (Nat.gcd (y' - x') x' = Nat.gcd a b) := ⟨by rw [hgs, Nat.gcd_comm]; exact HG7.out⟩; have HP := Hd.mk (rless_calls (some yd) c7 y' (some xd) c5 x' _ HNY.out HNX.out (Nat.le_of_lt hlt) (by omega)); have HLT := Hd.mk hlt; have hld : ln (y' - x') ≤ 268435456 := Nat.le_trans (ln_mono (Nat.sub_le _ _)) hly2; clear hgs hlt; go_wp2_with fail
      refine HP.out.mono ?_; rintro e w6 ⟨A9, c9, rfl, hn9, hb9⟩; have HN9 := Hd.mk hn9; clear hn9; go_wp2_with fail
      go_roundg (y' - x' + x')
      case measure => have := HSUM.out; have := HXX.out; have := HYY.out; have := HX5.out; have := HLT.out; omega
      case rel => exact ⟨y' - x', x', A9, c9, some xd, c5, rfl, rfl, HN9.out, HNX.out.to hb9, HX5.out, .inr HPX.out, HGS.out, hld, hlx2, Nat.le_refl _, bel_then HBW.out hb9⟩
     have hge := cmpv_ge hlt; obtain ⟨cv, hcv⟩ : ∃ cv, cv = cmpv x' y' := ⟨_, rfl⟩; rw [← hcv] at hge ⊢; have hgs := gcd_sub (a := x') (b := y') (by omega); have HGS : Hd (Nat.gcd (x' - y') y' = Nat.gcd a b) := ⟨by rw [hgs]; exact HG7.out⟩; have HP := Hd.mk (rless_calls (some xd) c5 x' (some yd) c7 y' _ HNX.out HNY.out (by omega) (by omega)); have HLT := Hd.mk hlt; have hld : ln (x' - y') ≤ 268435456 := Nat.le_trans (ln_mono (Nat.sub_le _ _)) hlx2; clear hgs hlt hcv; go_wp2_with fail
     refine HP.out.mono ?_; rintro e w6 ⟨A9, c9, rfl, hn9, hb9⟩; have HN9 := Hd.mk hn9; clear hn9; go_wp2_with fail
     go_roundg (x' - y' + y')
     case measure => have := HSUM.out; have := HXX.out; have := HYY.out; have := HY7.out; have := HLT.out; omega
     case rel => exact ⟨x' - y', y', A9, c9, some yd, c7, rfl, rfl, HN9.out, HNY.out.to hb9, HY7.out, .inr HPY.out, HGS.out, hld, hly2, Nat.le_refl _, bel_then HBW.out hb9⟩
set_option linter.unusedSimpArgs false
set_option maxHeartbeats 1000000 in
set_option maxRecDepth 100000 in
theorem gcd_calls (A1 : Option Addr) (c1 n : Nat) (A2 : Option Addr) (c2 m : Nat) (w : World) (h1 : NN w A1 c1 n) (h2 : NN w A2 c2 m) (l1 : ln n ≤ 268435456) (l2 : ln m ≤ 268435456) :
  Calls Tryz.prog 49 #[.slice A1 (ln n) c1, .slice A2 (ln m) c2] w (RetN (Nat.gcd n m) w) := by
 have HX := Hd.mk h1; have HY := Hd.mk h2; clear h1 h2; go_enter Tryz.func49, Tryz.ntmps49
 go_wp2_with fail
 go_loopg [0, 1] m (fun g s0 s1 wr => ∃ (a b : Nat) (A : Option Addr) (c : Nat) (A' : Option Addr) (c' : Nat), s0 = .slice A (ln a) c ∧ s1 = .slice A' (ln b) c' ∧ NN wr A c a ∧ NN wr A' c' b ∧ Nat.gcd a b = Nat.gcd n m ∧ ln a ≤ 268435456 ∧ ln b ≤ 268435456 ∧ b ≤ g ∧ Below w.heap.size w wr)
 case atStart => exact ⟨n, m, A1, c1, A2, c2, rfl, rfl, HX.out, HY.out, rfl, l1, l2, Nat.le_refl _, Below.refl _ _⟩
 case round =>
  obtain ⟨a, b, A, c, A', c', rfl, rfl, hna, hnb, hg, hla, hlb, hbg, hbel⟩ := hrel; have HA := Hd.mk hna; have HBb := Hd.mk hnb; have HG := Hd.mk hg; have HBG := Hd.mk hbg; have HB := Hd.mk hbel; clear hna hnb hg hbg hbel; go_wp2_with fail
  refine (zero_calls _ _ _ _ (by omega)).mono ?_; rintro e w1 ⟨rfl, rfl⟩; by_cases hb0 : b = 0
  ·have hd : decide (ln b = 0) = true := decide_eq_true (by rw [hb0, ln_zero]); rw [hd]; have he : Nat.gcd n m = a := by rw [← HG.out, hb0, Nat.gcd_zero_right]
   have HE := Hd.mk he; clear hd hb0 he; go_wp2_with fail
   go_ret
   exact ⟨A, c, by rw [HE.out]; rfl, by rw [HE.out]; exact HA.out, HB.out⟩
  have hd : decide (ln b = 0) = false := decide_eq_false (fun h => hb0 (ln_eq_zero.1 h)); rw [hd]; have HD := Hd.mk (div_calls A c a A' c' b wr HA.out HBb.out hb0 hla); have HLT : Hd (a % b < b) := ⟨Nat.mod_lt _ (by omega)⟩; have HGG : Hd (Nat.gcd b (a % b) = Nat.gcd n m) := ⟨by rw [← HG.out, Nat.gcd_comm a b, Nat.gcd_rec b a, Nat.gcd_comm]⟩; have hlr : ln (a % b) ≤ 268435456 := Nat.le_trans (ln_mono (Nat.le_of_lt HLT.out)) hlb; clear hb0 hd; go_wp2_with fail
  refine HD.out.mono ?_; rintro e w1 ⟨A3, c3, A4, c4, rfl, hn3, hn4, hb1⟩; have HN4 := Hd.mk hn4; clear hn3 hn4; go_wp2_with fail
  go_roundg (a % b)
  case measure => have := HLT.out; have := HBG.out; omega
  case rel => exact ⟨b, a % b, A', c', A4, c4, rfl, rfl, HBb.out.to hb1, HN4.out, HGG.out, hlb, hlr, Nat.le_refl _, bel_then HB.out hb1⟩
def zgcd (x y : Int) : Int := (Nat.gcd x.natAbs y.natAbs : Nat)
theorem zgcd_abs (x y : Int) : (zgcd x y).natAbs = Nat.gcd x.natAbs y.natAbs := by unfold zgcd; omega
theorem zgcd_sign (x y : Int) : decide (zgcd x y < 0) = false := decide_eq_false (by unfold zgcd; omega)
theorem zgcd_ln (x y : Int) : ln (zgcd x y).natAbs ≤ max (ln x.natAbs) (ln y.natAbs) := by
 rw [zgcd_abs]; by_cases h : x.natAbs = 0
 ·rw [h, Nat.gcd_zero_left]; omega
 exact Nat.le_trans (ln_mono (Nat.gcd_le_left _ (by omega))) (by omega)
set_option maxRecDepth 100000 in
theorem rCommon_calls (x y : Int) (A1 : Option Addr) (c1 : Nat) (A2 : Option Addr) (c2 : Nat) (w : World) (h1 : NN w A1 c1 x.natAbs) (h2 : NN w A2 c2 y.natAbs) (l1 : ln x.natAbs ≤ 268435456) (l2 : ln y.natAbs ≤ 268435456) :
  Calls Tryz.prog 35 #[.agg #[.bool (decide (x < 0)), .slice A1 (ln x.natAbs) c1], .agg #[.bool (decide (y < 0)), .slice A2 (ln y.natAbs) c2]] w (RetZ (zgcd x y) w) := by
 have HT := Hd.mk (fun W (hW : Below w.heap.size w W) => divisor_calls A1 c1 x.natAbs A2 c2 y.natAbs W (h1.to hW) (h2.to hW) l1 l2); have hgl := zgcd_ln x y; unfold RetZ; rw [zgcd_abs] at hgl; rw [zgcd_sign, zgcd_abs]; clear h1 h2; obtain ⟨b1, hb1⟩ : ∃ b, b = decide (x < 0) := ⟨_, rfl⟩; obtain ⟨b2, hb2⟩ : ∃ b, b = decide (y < 0) := ⟨_, rfl⟩; rw [← hb1, ← hb2]; clear hb1 hb2; obtain ⟨g, hg⟩ : ∃ g, g = Nat.gcd x.natAbs y.natAbs := ⟨_, rfl⟩; rw [← hg] at HT hgl ⊢; obtain ⟨n1, hn1⟩ : ∃ n, n = ln x.natAbs := ⟨_, rfl⟩; obtain ⟨n2, hn2⟩ : ∃ n, n = ln y.natAbs := ⟨_, rfl⟩; rw [← hn1, ← hn2] at HT hgl ⊢; rw [← hn1] at l1; rw [← hn2] at l2; have hgl2 : ln g ≤ 9223372036854775807 := by omega
 clear hg hn1 hn2 hgl; go_enter Tryz.func35, Tryz.ntmps35
 go_wp2_with fail
 obtain ⟨W0, hW0⟩ : ∃ W : World, W = ((w.alloc (.cells #[.bool b1, .slice A1 n1 c1] 61)).alloc (.cells #[.bool b2, .slice A2 n2 c2] 61)).alloc (.cells #[.bool false, .slice none 0 0] 61) := ⟨_, rfl⟩; rw [← hW0]; have HSZ : Hd (w.heap.size + 1 + 1 + 1 = W0.heap.size) := ⟨by rw [hW0]; simp⟩; obtain ⟨hB0, hB1, hB2, hBW⟩ := boxes3 hW0; have q0 := hB0.c0; have q1 := hB0.c1; have q2 := hB1.c0; have q3 := hB1.c1; have g0 := hB2.c0; have g1 := hB2.c1; have u0 := hB2.f0; have u1 := hB2.f1; have Q0 := Hd.mk hB0; have Q1 := Hd.mk hB1; have QR := Hd.mk hB2; have HW := Hd.mk hBW; have HB : Hd (Below W0.heap.size W0 W0) := ⟨Below.refl _ _⟩; clear hB0 hB1 hB2 hBW hW0; refine (HT.out _ (bel_then HW.out (by repeat (first | exact HB.out | exact Below.refl _ _ | refine below_alloc ?_ _ | refine below_drewN ?_ _ | refine below_drew ?_ | refine below_set ?_ (by first | exact Nat.le_refl _ | omega | (simp; done) | (simp; omega)) _)))).mono ?_; rintro e w1 ⟨A3, c3, rfl, hn3, hb1⟩; have HN3 := Hd.mk hn3; clear hn3; have HB' : Hd (Below W0.heap.size W0 _) := ⟨bel_then (by repeat (first | exact HB.out | exact Below.refl _ _ | refine below_alloc ?_ _ | refine below_drewN ?_ _ | refine below_drew ?_ | refine below_set ?_ (by first | exact Nat.le_refl _ | omega | (simp; done) | (simp; omega)) _)) hb1⟩; clear HB; have HB := HB'; clear HB' hb1; replace q0 := (Q0.out.to HB.out).c0; replace q1 := (Q0.out.to HB.out).c1; replace q2 := (Q1.out.to HB.out).c0; replace q3 := (Q1.out.to HB.out).c1; replace g0 := (QR.out.to HB.out).c0; replace g1 := (QR.out.to HB.out).c1; replace u0 := (QR.out.to HB.out).f0; replace u1 := (QR.out.to HB.out).f1; go_wp2_with fail
 refine (signed_calls false false A3 (ln g) c3 _ hgl2 rfl).mono ?_; rintro e w2 ⟨rfl, hb2⟩; have HN := Hd.mk (HN3.out.to hb2); clear HN3; have HB' : Hd (Below W0.heap.size W0 _) := ⟨bel_then (by repeat (first | exact HB.out | exact Below.refl _ _ | refine below_alloc ?_ _ | refine below_drewN ?_ _ | refine below_drew ?_ | refine below_set ?_ (by first | exact Nat.le_refl _ | omega | (simp; done) | (simp; omega)) _)) hb2⟩; clear HB; have HB := HB'; clear HB' hb2; replace q0 := (Q0.out.to HB.out).c0; replace q1 := (Q0.out.to HB.out).c1; replace q2 := (Q1.out.to HB.out).c0; replace q3 := (Q1.out.to HB.out).c1; replace g0 := (QR.out.to HB.out).c0; replace g1 := (QR.out.to HB.out).c1; replace u0 := (QR.out.to HB.out).f0; replace u1 := (QR.out.to HB.out).f1; go_wp2_with fail
 obtain ⟨k0, k1, k2⟩ := two_set g0 g1 (.bool false) (.slice A3 (ln g) c3); refine bodyPost_ret (v := .agg #[.bool false, .slice A3 (ln g) c3]) (by simp [results, Tryz.results35, go_sem, k0, k1]) rfl ?_; exact ⟨A3, c3, rfl, (HN.out.set_ g0 (by intro t; simp) _).set_ k2 (by intro t; simp) _, (by repeat (first | exact bel_then HW.out HB.out | refine below_set ?_ (by first | exact Nat.le_refl _ | omega | (simp; done) | (simp; omega)) _ | refine below_alloc ?_ _ | refine below_drewN ?_ _ | refine below_drew ?_))⟩
end Go.Proofs.YtdfhhceboacdcaaGreatDoor
set_option linter.unusedVariables false
namespace Go.Proofs.YtdfhhceboacdcaaGreatDoor
theorem zgcd_eq (p q : Int) : zgcd p q = ((Int.gcd p q : Nat) : Int) := by unfold zgcd; rw [Int.gcd_eq_natAbs_gcd_natAbs]
theorem zgcd_step (a b : Int) : zgcd b (a % b) = zgcd a b := by
 rw [zgcd_eq, zgcd_eq]; congr 1
 have h : a % b = a - (a / b) * b := by have := Int.mul_ediv_add_emod a b; rw [Int.mul_comm] at this; omega
 rw [h, Int.gcd_sub_mul_right_right, Int.gcd_comm]
structure EU (p q r0 r1 s0 s1 : Int) : Prop where
 d0 : q ∣ s0 * p - r0
 d1 : q ∣ s1 * p - r1
 g : zgcd r0 r1 = zgcd p q
 b0 : s0.natAbs ≤ 3 * q.natAbs
 b1 : s1.natAbs ≤ 3 * q.natAbs
 a0 : r0.natAbs ≤ p.natAbs + q.natAbs
 a1 : r1.natAbs ≤ q.natAbs
 ph : (r0 = p ∧ r1 = q ∧ s0 = 1 ∧ s1 = 0) ∨ (r0 = q ∧ 0 ≤ r1 ∧ s0 = 0 ∧ s1 = 1) ∨ (0 ≤ r0 ∧ 0 ≤ r1 ∧ s1.natAbs * r0.natAbs + s0.natAbs * r1.natAbs ≤ 3 * q.natAbs)
theorem phi_step {K R0 R1 R2 S0 S1 S2 B : Nat} (hr : R0 = K * R1 + R2) (hs : S2 ≤ S0 + K * S1) (h : S1 * R0 + S0 * R1 ≤ B) : S2 * R1 + S1 * R2 ≤ B := by
 refine Nat.le_trans ?_ h; have h1 := Nat.mul_le_mul_right R1 hs; rw [Nat.add_mul] at h1; rw [hr, Nat.mul_add]; have h2 : K * S1 * R1 = S1 * (K * R1) := by rw [Nat.mul_comm K S1, Nat.mul_assoc]
 omega
theorem abs_step {r0 r1 : Int} (h0 : 0 ≤ r0) (h1 : 0 < r1) : r0.natAbs = (r0 / r1).natAbs * r1.natAbs + (r0 % r1).natAbs := by
 have h2 := Int.mul_ediv_add_emod r0 r1; have h3 : 0 ≤ r0 / r1 := Int.ediv_nonneg h0 (by omega); have h4 := Int.emod_nonneg r0 (show r1 ≠ 0 by omega)
 have h5 : (((r0 / r1).natAbs * r1.natAbs : Nat) : Int) = r1 * (r0 / r1) := by
  rw [Int.natCast_mul, Int.natAbs_of_nonneg h3, Int.natAbs_of_nonneg (by omega), Int.mul_comm]
 omega
theorem EU.step {p q r0 r1 s0 s1 : Int} (h : EU p q r0 r1 s0 s1) (h1 : r1 ≠ 0) : EU p q r1 (r0 % r1) s1 (s0 - r0 / r1 * s1) := by
 have hm0 := Int.emod_nonneg r0 h1; have hml : (r0 % r1).natAbs < r1.natAbs := by have := Int.emod_lt r0 h1; omega
 have hd : q ∣ (s0 - r0 / r1 * s1) * p - r0 % r1 := by
  have e : (s0 - r0 / r1 * s1) * p - r0 % r1 = (s0 * p - r0) - r0 / r1 * (s1 * p - r1) := by
   have := Int.mul_ediv_add_emod r0 r1; rw [Int.sub_mul, Int.mul_sub, Int.mul_assoc, Int.mul_comm (r0 / r1) r1]; omega
  rw [e]; exact Int.dvd_sub h.d0 (Int.dvd_mul_of_dvd_right h.d1)
 have hg : zgcd r1 (r0 % r1) = zgcd p q := by rw [zgcd_step, h.g]
 have key : (0 ≤ r1 ∧ (s0 - r0 / r1 * s1).natAbs * r1.natAbs + s1.natAbs * (r0 % r1).natAbs ≤ 3 * q.natAbs) → EU p q r1 (r0 % r1) s1 (s0 - r0 / r1 * s1) := by
  rintro ⟨hp, hb⟩; refine ⟨h.d1, hd, hg, h.b1, ?_, by have := h.a1; omega, by have := h.a1; omega, .inr (.inr ⟨hp, hm0, hb⟩)⟩; have : 1 ≤ r1.natAbs := by omega
  have h2 := Nat.mul_le_mul_left (s0 - r0 / r1 * s1).natAbs this; omega
 rcases h.ph with ⟨e0, e1, e2, e3⟩ | ⟨e0, e1, e2, e3⟩ | ⟨e0, e1, e2⟩
 ·subst e2 e3 e1; rw [Int.mul_zero, Int.sub_zero] at hd ⊢; exact ⟨h.d1, hd, hg, h.b1, h.b0, by omega, by omega, .inr (.inl ⟨rfl, hm0, rfl, rfl⟩)⟩
 ·apply key; subst e2 e3 e0; refine ⟨e1, ?_⟩; rw [Int.mul_one, Int.zero_sub, Int.natAbs_neg]; have h2 := Int.mul_ediv_add_emod r0 r1
  have h3 : (((r0 / r1).natAbs * r1.natAbs : Nat) : Int) = ((r1 * (r0 / r1)).natAbs : Int) := by
   rw [Int.natAbs_mul, Nat.mul_comm]
  have h4 : (r1 * (r0 / r1)).natAbs ≤ r0.natAbs + (r0 % r1).natAbs := by omega
  have h5 : (r0 / r1).natAbs * r1.natAbs ≤ r0.natAbs + (r0 % r1).natAbs := by omega
  have h6 := h.a1; show (r0 / r1).natAbs * r1.natAbs + 1 * (r0 % r1).natAbs ≤ 3 * r0.natAbs; omega
 apply key; refine ⟨e1, phi_step (K := (r0 / r1).natAbs) (abs_step e0 (by omega)) ?_ e2⟩; refine Nat.le_trans (Int.natAbs_sub_le _ _) ?_; rw [Int.natAbs_mul]; exact Nat.le_refl _
structure EV (a0 m a b x y : Int) : Prop where
 d0 : m ∣ x * a0 - a
 d1 : m ∣ y * a0 - b
 g : zgcd a b = zgcd a0 m
 na : 0 ≤ a
 nb : 0 ≤ b
 la : a ≤ m
 lb : b ≤ m
 bx : x.natAbs ≤ m.natAbs
 by_ : y.natAbs ≤ m.natAbs
 ph : y.natAbs * a.natAbs + x.natAbs * b.natAbs ≤ m.natAbs
theorem EV.step {a0 m a b x y : Int} (h : EV a0 m a b x y) (h1 : b ≠ 0) : EV a0 m b (a % b) y (x - a / b * y) := by
 have hm0 := Int.emod_nonneg a h1; have hml : (a % b).natAbs < b.natAbs := by have := Int.emod_lt a h1; omega
 have hb0 := h.nb
 have hd : m ∣ (x - a / b * y) * a0 - a % b := by
  have e : (x - a / b * y) * a0 - a % b = (x * a0 - a) - a / b * (y * a0 - b) := by
   have := Int.mul_ediv_add_emod a b; rw [Int.sub_mul, Int.mul_sub, Int.mul_assoc, Int.mul_comm (a / b) b]; omega
  rw [e]; exact Int.dvd_sub h.d0 (Int.dvd_mul_of_dvd_right h.d1)
 have hph : (x - a / b * y).natAbs * b.natAbs + y.natAbs * (a % b).natAbs ≤ m.natAbs := by
  refine phi_step (K := (a / b).natAbs) (abs_step h.na (by omega)) ?_ h.ph; refine Nat.le_trans (Int.natAbs_sub_le _ _) ?_; rw [Int.natAbs_mul]; exact Nat.le_refl _
 refine ⟨h.d1, hd, by rw [zgcd_step, h.g], hb0, hm0, h.lb, by have := h.lb; omega, h.by_, ?_, hph⟩; have : 1 ≤ b.natAbs := by omega
 have h2 := Nat.mul_le_mul_left (x - a / b * y).natAbs this; omega
end Go.Proofs.YtdfhhceboacdcaaGreatDoor
set_option linter.unusedVariables false
set_option linter.unusedSimpArgs false
namespace Go.Proofs.YtdfhhceboacdcaaGreatDoor
open Go.RowKit
theorem whole_one (w : World) : Calls Tryz.prog 36 #[.int .i64 1] w (Got w (isZ 1).p) := (Whole_calls 1 w (by omega) (by omega)).mono fun e w' h => h.got
end Go.Proofs.YtdfhhceboacdcaaGreatDoor
set_option linter.unusedVariables false
namespace Go.Proofs.YtdfhhceboacdcaaGreatDoor
def qd (n d : Int) : Int := (d.natAbs : Int) / zgcd n d
end Go.Proofs.YtdfhhceboacdcaaGreatDoor
set_option linter.unusedVariables false
set_option linter.unusedSimpArgs false
namespace Go.Proofs.YtdfhhceboacdcaaGreatDoor
open Go.RowKit
section
variable {P : Program} {Q : Exit → Act → World → Prop} {ops : Array Oper} {o : Oper} {rest : List Oper} {a : Act} {w w' : World} {T : TypeId} {x y : Operand} {p v : Value}
end
section
variable {w : World} {g o : Nat} {t : TypeId} {x y u v u' v' : Value} {c c' d d' : CP} {l : List CP} {vs : List Value}
theorem cell_of {i : Nat} {k : Value} (hb : Blk w g t vs) (h : vs[i]? = some k) : w.cell? ⟨g, i, none⟩ = some k := (hb.cell i).trans h
theorem alloc_R (w : World) : (Instr.alloc 26 true (.tuple #[])).run Tryz.prog w = .ok (.pointer (some ⟨w.heap.size, 0, none⟩)) (w.alloc (.cells [.bool false, .slice none 0 0, .bool false, .slice none 0 0].toArray 26)) := by
 simp [go_sem]
end
section
variable {w w' : World} {L : List Ent} {i g : Nat} {t : TypeId} {c c' d d' : CP} {u v u' v' : Value}
end
section
variable {w : World} {v1 v2 : Value}
theorem rCommon_got (x y : Int) (v1 v2 : Value) (w : World) (h1 : (isZ x).p v1 w) (h2 : (isZ y).p v2 w) (l1 : ln x.natAbs ≤ 268435456) (l2 : ln y.natAbs ≤ 268435456) : Calls Tryz.prog 35 #[v1, v2] w (Got w (isZ (zgcd x y)).p) :=
 z2 (fun A1 c1 A2 c2 h1 h2 => rCommon_calls x y A1 c1 A2 c2 _ h1 h2 l1 l2) (fun e w' h => h.got) h1 h2
theorem rOrd_got (x y : Int) (v1 v2 : Value) (w : World) (h1 : (isZ x).p v1 w) (h2 : (isZ y).p v2 w) (l1 : ln x.natAbs ≤ 1073741824) (l2 : ln y.natAbs ≤ 1073741824) : Calls Tryz.prog 34 #[v1, v2] w (Got w (isV (.int .i64 (sgnv (x - y)))).p) :=
 z2 (fun A1 c1 A2 c2 h1 h2 => rOrder_calls x y A1 c1 A2 c2 _ h1 h2 l1 l2) (fun e w' h => same_got h) h1 h2
theorem of_got (x : Int) (v1 : Value) (w : World) (h1 : (isZ x).p v1 w) : Calls Tryz.prog 26 #[v1] w (Got w (isZ x).p) := z1_same (fun A1 c1 => of_calls _ _ _ _ _) h1
theorem rOf_got (x : Int) (v1 : Value) (w : World) (h1 : (isZ x).p v1 w) : Calls Tryz.prog 30 #[v1] w (Got w (isZ x).p) := z1_same (fun A1 c1 => rOf_calls _ _ _ _ _) h1
theorem rSign_got (x : Int) (v1 : Value) (w : World) (h1 : (isZ x).p v1 w) (l1 : ln x.natAbs ≤ 1073741824) : Calls Tryz.prog 33 #[v1] w (Got w (isV (.int .i64 (sgnv x))).p) :=
 z1 (fun A1 c1 h1 => rSign_calls _ A1 c1 _ (by omega)) (fun e w' h => same_got h) h1
theorem ngcd_got (m n : Nat) (v1 v2 : Value) (w : World) (h1 : (isN m).p v1 w) (h2 : (isN n).p v2 w) (l1 : ln m ≤ 268435456) (l2 : ln n ≤ 268435456) : Calls Tryz.prog 49 #[v1, v2] w (Got w (isN (Nat.gcd m n)).p) :=
 n2 (fun A1 c1 A2 c2 h1 h2 => gcd_calls A1 c1 m A2 c2 n _ h1 h2 l1 l2) (fun e w' h => h.got) h1 h2
theorem same_zz (x y : Int) (v1 v2 : Value) (w : World) (h1 : (isZ x).p v1 w) (h2 : (isZ y).p v2 w) : Calls Tryz.prog 17 #[v1, v2] w (Got w (isV (.bool (decide (x = y)))).p) :=
 z2 (fun A1 c1 A2 c2 h1 h2 => same_calls x y A1 c1 A2 c2 _ h1 h2) (fun e w' h => same_got h) h1 h2
theorem rvalid_raw (r : Raw) (v1 : Value) (w : World) (h1 : (isL [rC r]).p v1 w) : Calls Tryz.prog 28 #[v1] w (Got w (isV (.bool r.ok)).p) := by
 obtain ⟨x, y, rfl, rfl, rfl, h⟩ := isL_one.1 h1; exact (rvalid_calls r _ h).mono fun e w' h => same_got h
theorem rC_zC {r : Raw} {u v : Value} {w : World} (ho : r.ok = true) (h : (rC r).p u v w) : (zC r.val).p u v w := by
 obtain ⟨rfl, rfl, ha⟩ := h; have h1 := Raw.num ho ha.2.1; refine ⟨r.A, r.c, ?_, ?_, Raw.nn ho ha⟩
 ·rw [Raw.ok_neg ho ha.2.1]
 rw [h1.2]
end
section
variable {P : Program} {o : Oper} {a : Act} {w : World} {s t : SP} {x : Operand}
theorem op_mv {s : SP} (ho : o.op = .move x) (hx : s.p (a.eval x) w) : ∃ v, (∀ w, (execOp a.eval o).run P w = .ok (.value v) w) ∧ s.p v w := ⟨_, op_move ho rfl, hx⟩
end
theorem wp_b {P : Program} {Q : Exit → Act → World → Prop} {o : Oper} {a : Act} {w : World} {d : Nat} {b b' : Bool} (h : b = b') (hc : o.wp P a w (Post a w d (isV (.bool b)).p) Q) : o.wp P a w (Post a w d (isV (.bool b')).p) Q := by
 subst h; exact hc
theorem pure_b {R : Value → Prop} {b b' : Bool} {w : World} (h : b = b') (hc : ∃ v, R v ∧ (isV (.bool b)).p v w) : ∃ v, R v ∧ (isV (.bool b')).p v w := by
 subst h; exact hc
section
variable {w : World} {g : Nat} {t : TypeId} {c d : CP}
end
end Go.Proofs.YtdfhhceboacdcaaGreatDoor
set_option linter.unusedVariables false
set_option linter.unusedSimpArgs false
namespace Go.Proofs.YtdfhhceboacdcaaGreatDoor
open Go.RowKit
section
variable {P : Program} {Q : Exit → Act → World → Prop} {o : Oper} {a : Act} {w : World} {d : Nat} {R : Value → World → Prop} {f : Nat} {x1 x2 x3 y : Operand} {ts : Array TypeId}
end
section
variable {Q : Exit → Act → World → Prop} {o : Oper} {a : Act} {w : World} {d : Nat} {x y : Operand} {A : Option Addr} {l c : Nat} {k m : Int}
theorem op_lenw {n : Nat} (ho : o.op = .call { callee := .builtin .len, args := #[x], argTypes := #[22] }) (hd : o.dst = some d) (hx : (isN n).p (a.eval x) w) : o.wp Tryz.prog a w (Post a w d (isV (.int .i64 ((ln n : Nat) : Int))).p) Q := by
 obtain ⟨A, c, e, _⟩ := hx; refine op_run (v := .int .i64 ((ln n : Nat) : Int)) hd ?_ rfl; generalize a.eval = ev at e ⊢; unfold execOp; simp only [ho]; simp [go_sem, e]
end
attribute [local go_sem] run_max2_int run_max_two
section
variable {Q : Exit → Act → World → Prop} {o : Oper} {a : Act} {w : World} {d : Nat} {x y : Operand} {ty : TypeId} {k m : Int} {c c' : CP} {u v u' v' x0 x1 x2 x3 : Value}
theorem op_eql0 (ho : o.op = .binOp .eql 3 x (.const (.int .i64 0)) ty) (hx : a.eval x = .int .i64 k) (w : World) : (execOp a.eval o).run Tryz.prog w = .ok (.value (.bool (decide (k = 0)))) w := by
 have hc : a.eval (.const (.int .i64 0)) = .int .i64 0 := rfl; generalize a.eval = ev at hx hc ⊢; unfold execOp; simp only [ho, hx, hc]; simp [go_sem]; rfl
theorem op_magV {z : Int} (ho : o.op = .field 51 x 1) (hx : (isZ z).p (a.eval x) w) : ∃ v, (∀ w, (execOp a.eval o).run Tryz.prog w = .ok (.value v) w) ∧ (isN z.natAbs).p v w := by
 obtain ⟨A, c, e, hn⟩ := hx; refine ⟨.slice A (ln z.natAbs) c, fun w => ?_, A, c, rfl, hn⟩; generalize a.eval = ev at e ⊢; unfold execOp; simp only [ho, e, Sem.run_bind, run_fld_whole, Result.andThen_ok, Sem.run_pure]
theorem bs_I2 (w : World) : (Instr.buildSlice 95 2 #[(0, .agg #[u, v]), (1, .agg #[u', v'])]).run Tryz.prog w = .ok (.slice (some ⟨w.heap.size, 0, none⟩) 2 2) (w.alloc (.cells #[u, v, u', v'] 24)) := by
 simp [go_sem]
end
end Go.Proofs.YtdfhhceboacdcaaGreatDoor
