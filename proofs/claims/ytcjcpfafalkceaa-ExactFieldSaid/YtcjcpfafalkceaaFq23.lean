/- Part 23 of the texts behind this claim. -/
import Derived.Test.YtcjcpfafalkceaaFq22
set_option linter.unusedVariables false
namespace Go.Proofs.Ytcjcpfafalkceaa
open Go.RowKit
theorem gcd_both {a b : Nat} (ha : a % 2 = 0) (hb : b % 2 = 0) : Nat.gcd a b = Nat.gcd (a / 2) (b / 2) * 2 := by
  have h1 : a = 2 * (a / 2) := by omega
  have h2 : b = 2 * (b / 2) := by omega
  conv => lhs; rw [h1, h2, Nat.gcd_mul_left]
  omega
theorem coprime_two {b : Nat} (hb : b % 2 = 1) : Nat.Coprime 2 b := by
  unfold Nat.Coprime
  rw [Nat.gcd_rec, hb]
  rfl
theorem gcd_left {a b : Nat} (ha : a % 2 = 0) (hb : b % 2 = 1) : Nat.gcd (a / 2) b = Nat.gcd a b := by
  have h1 : a = 2 * (a / 2) := by omega
  conv => rhs; rw [h1]
  exact (Nat.Coprime.gcd_mul_left_cancel _ (coprime_two hb)).symm
theorem gcd_right {a b : Nat} (ha : a % 2 = 1) (hb : b % 2 = 0) : Nat.gcd a (b / 2) = Nat.gcd a b := by
  rw [Nat.gcd_comm, gcd_left hb ha, Nat.gcd_comm]
theorem gcd_sub {a b : Nat} (h : b ≤ a) : Nat.gcd (a - b) b = Nat.gcd a b := Nat.gcd_sub_self_left h
theorem NN.first {w : World} {A : Option Addr} {c n : Nat} (h : NN w A c n) (h0 : n ≠ 0) : ∃ ad, A = some ad ∧ w.cell? ad = some (.int .u32 ((n % 4294967296 : Nat) : Int)) := by
  obtain ⟨ad, e, hc⟩ := h.at_ (k := 0) (ln_pos.2 (by omega))
  refine ⟨ad, e, ?_⟩
  rw [show ad.add 0 = ad from by unfold Addr.add; rw [if_pos rfl]] at hc
  rw [hc, dig_getD]
  simp [B]
theorem and_one {x p : Nat} (hx : x < 4294967296) (h : x % 2 = p) : bits .and .u32 (x : Int) 1 = (p : Int) := by
  have := u32_and_nat x 1 (by omega) (by omega)
  rw [show ((1 : Nat) : Int) = 1 from rfl] at this
  rw [this, Nat.and_one_is_mod, h]
theorem and_one0 {x : Nat} (hx : x < 4294967296) (h : x % 2 = 0) : bits .and .u32 (x : Int) 1 = 0 := and_one hx h
theorem and_one1 {x : Nat} (hx : x < 4294967296) (h : x % 2 = 1) : bits .and .u32 (x : Int) 1 = 1 := and_one hx h
set_option maxHeartbeats 2000000 in
set_option maxRecDepth 100000 in
theorem divisor_calls (A1 : Option Addr) (c1 n : Nat) (A2 : Option Addr) (c2 m : Nat) (w : World) (h1 : NN w A1 c1 n) (h2 : NN w A2 c2 m) (l1 : ln n ≤ 268435456) (l2 : ln m ≤ 268435456) :
    Calls Try.prog 130 #[.slice A1 (ln n) c1, .slice A2 (ln m) c2] w (RetN (Nat.gcd n m) w) := by
  by_cases hnm : n = 0 ∨ m = 0
  · have hg : Nat.gcd n m = n + m := by rcases hnm with rfl | rfl <;> simp
    have hl : ln n = 0 ∨ ln m = 0 := hnm.imp (fun h => by rw [h, ln_zero]) (fun h => by rw [h, ln_zero])
    rw [hg]
    have HP := Hd.mk (fun W (hW : Below w.heap.size w W) => rplus_calls A1 c1 n A2 c2 m W (h1.to hW) (h2.to hW) (by omega) (by omega))
    clear hnm hg h1 h2
    obtain ⟨ln1, hln1⟩ : ∃ k, k = ln n := ⟨_, rfl⟩
    obtain ⟨ln2, hln2⟩ : ∃ k, k = ln m := ⟨_, rfl⟩
    rw [← hln1] at HP hl l1 ⊢
    rw [← hln2] at HP hl l2 ⊢
    clear hln1 hln2
    by_cases ha : ln1 = 0
    · subst ha
      go_enter Try.func130, Try.ntmps130
      go_wp2_with fail
      refine (HP.out _ (Below.refl _ _)).mono ?_
      rintro e w1 ⟨A3, c3, rfl, hn3, hb3⟩
      have HN3 := Hd.mk hn3
      clear hn3
      go_wp2_with fail
      go_ret
      exact ⟨A3, c3, rfl, HN3.out, hb3⟩
    · have hb : ln2 = 0 := by omega
      subst hb
      have hne : ((ln1 : Int) == 0) = false := by rw [beq_eq_false_iff_ne]; omega
      clear hl
      go_enter Try.func130, Try.ntmps130
      go_wp2_with fail
      refine (HP.out _ (Below.refl _ _)).mono ?_
      rintro e w1 ⟨A3, c3, rfl, hn3, hb3⟩
      have HN3 := Hd.mk hn3
      clear hn3
      go_wp2_with fail
      go_ret
      exact ⟨A3, c3, rfl, HN3.out, hb3⟩
  · have hn0 : n ≠ 0 := fun h => hnm (.inl h)
    have hm0 : m ≠ 0 := fun h => hnm (.inr h)
    have hne1 : ((ln n : Int) == 0) = false := by rw [beq_eq_false_iff_ne]; have := ln_pos.2 (show 0 < n by omega); omega
    have hne2 : ((ln m : Int) == 0) = false := by rw [beq_eq_false_iff_ne]; have := ln_pos.2 (show 0 < m by omega); omega
    have HX := Hd.mk h1
    have HY := Hd.mk h2
    have HN0 := Hd.mk hn0
    have HM0 := Hd.mk hm0
    have hlog : n < 2 ^ (32 * ln n) := by have := lt_pow_ln n; rw [show B = 2 ^ 32 from rfl, ← Nat.pow_mul] at this; exact this
    have HLOG := Hd.mk hlog
    clear h1 h2 hnm hn0 hm0 hlog
    go_enter Try.func130, Try.ntmps130
    go_wp2_with fail
    clear hne1 hne2
    go_loopg [0, 1, 5] n (fun g s0 s1 s5 wr => ∃ (a b t : Nat) (A : Option Addr) (c : Nat) (A' : Option Addr) (c' : Nat), s0 = .slice A (ln a) c ∧ s1 = .slice A' (ln b) c' ∧ s5 = .int .i64 (t : Int) ∧ NN wr A c a ∧ NN wr A' c' b ∧ a ≠ 0 ∧ b ≠ 0 ∧ a * 2 ^ t = n ∧ b ≤ m ∧ Nat.gcd a b * 2 ^ t = Nat.gcd n m ∧ a ≤ g ∧ Below w.heap.size w wr)
    case atStart => exact ⟨n, m, 0, A1, c1, A2, c2, rfl, rfl, rfl, HX.out, HY.out, HN0.out, HM0.out, by simp, Nat.le_refl _, by simp, Nat.le_refl _, Below.refl _ _⟩
    case round =>
      obtain ⟨a, b, t, A, c, A', c', rfl, rfl, rfl, hna, hnb, ha0, hb0, hat, hbm, hgt, hag, hbel⟩ := hrel
      have HA := Hd.mk hna
      have HBb := Hd.mk hnb
      have HAT := Hd.mk hat
      have HGT := Hd.mk hgt
      have HB := Hd.mk hbel
      have htl : t ≤ 8589934592 := by
        have h1 : 2 ^ t ≤ n := by rw [← hat]; exact Nat.le_mul_of_pos_left _ (by omega)
        have h2 := Nat.lt_of_le_of_lt h1 HLOG.out
        have h3 := (Nat.pow_lt_pow_iff_right (a := 2) (by omega)).1 h2
        omega
      have han : a ≤ n := by rw [← hat]; exact Nat.le_mul_of_pos_right _ (Nat.pow_pos (by omega))
      have hla : ln a ≤ 268435456 := Nat.le_trans (ln_mono han) l1
      have hlb : ln b ≤ 268435456 := Nat.le_trans (ln_mono hbm) l2
      obtain ⟨ad, rfl, hca⟩ := hna.first ha0
      obtain ⟨bd, rfl, hcb⟩ := hnb.first hb0
      have hla0 : 0 < ln a := ln_pos.2 (by omega)
      have hlb0 : 0 < ln b := ln_pos.2 (by omega)
      clear hna hnb hat hgt hbel
      have HA0 := Hd.mk ha0
      have HB0 := Hd.mk hb0
      clear ha0 hb0
      obtain ⟨xa, hxa⟩ : ∃ x, x = a % 4294967296 := ⟨_, rfl⟩
      obtain ⟨xb, hxb⟩ : ∃ x, x = b % 4294967296 := ⟨_, rfl⟩
      rw [← hxa] at hca
      rw [← hxb] at hcb
      have hxal : xa < 4294967296 := by omega
      have hxbl : xb < 4294967296 := by omega
      by_cases hpa : a % 2 = 0
      · have hqa : bits .and .u32 (xa : Int) 1 = 0 := and_one0 hxal (by omega)
        by_cases hpb : b % 2 = 0
        · have hqb : bits .and .u32 (xb : Int) 1 = 0 := and_one0 hxbl (by omega)
          have hgb := gcd_both hpa hpb
          have hab : a / 2 * 2 ^ (t + 1) = n := by
            rw [← HAT.out, Nat.pow_succ, Nat.mul_comm (2 ^ t), ← Nat.mul_assoc, show a / 2 * 2 = a from by omega]
          have hgg : Nat.gcd (a / 2) (b / 2) * 2 ^ (t + 1) = Nat.gcd n m := by
            rw [← HGT.out, hgb, Nat.pow_succ, Nat.mul_comm (2 ^ t), ← Nat.mul_assoc]
          have h3 : a / 2 ≠ 0 := by have := HA0.out; omega
          have h4 : b / 2 ≠ 0 := by have := HB0.out; omega
          have H1 := Hd.mk hab
          have H2 := Hd.mk hgg
          have H3 := Hd.mk h3
          have H4 := Hd.mk h4
          clear hxa hxb hpa hpb hgb hab hgg h3 h4
          go_wp2_with fail
          refine (rhalf_calls (some ad) c a _ HA.out (by omega)).mono ?_
          rintro e w1 ⟨A3, c3, rfl, hn3, hb3⟩
          have HN3 := Hd.mk hn3
          have HB3 := Hd.mk hb3
          clear hn3 hb3
          go_wp2_with fail
          refine (rhalf_calls (some bd) c' b _ (HBb.out.to HB3.out) (by omega)).mono ?_
          rintro e w2 ⟨A4, c4, rfl, hn4, hb4⟩
          have HN4 := Hd.mk hn4
          have HB4 := Hd.mk hb4
          clear hn4 hb4
          go_wp2_with fail
          go_roundg (a / 2)
          case measure => have := HA0.out; omega
          case rel => exact ⟨a / 2, b / 2, t + 1, A3, c3, A4, c4, rfl, rfl, by go_num, HN3.out.to HB4.out, HN4.out, H3.out, H4.out, H1.out, by omega, H2.out, Nat.le_refl _, bel_then HB.out (bel_then HB3.out HB4.out)⟩
        · have hqb : bits .and .u32 (xb : Int) 1 = 1 := and_one1 hxbl (by omega)
          have HPB : Hd (a % 2 = 1 ∨ b % 2 = 1) := ⟨.inr (by omega)⟩
          clear hxa hxb hpa hpb
          go_wp2_with fail
          clear hca hcb hqa hqb
          go_loopg [0, 1] (a + b) (fun g s0 s1 wr => ∃ (a' b' : Nat) (A : Option Addr) (c : Nat) (A' : Option Addr) (c' : Nat), s0 = .slice A (ln a') c ∧ s1 = .slice A' (ln b') c' ∧ NN wr A c a' ∧ NN wr A' c' b' ∧ b' ≠ 0 ∧ (a' % 2 = 1 ∨ b' % 2 = 1) ∧ Nat.gcd a' b' = Nat.gcd a b ∧ ln a' ≤ 268435456 ∧ ln b' ≤ 268435456 ∧ a' + b' ≤ g ∧ Below w.heap.size w wr)
          case atStart => exact ⟨a, b, some ad, c, some bd, c', rfl, rfl, HA.out, HBb.out, HB0.out, HPB.out, rfl, hla, hlb, Nat.le_refl _, HB.out⟩
          case round => as_aux_lemma =>
            obtain ⟨x, y, A3, c3, A4, c4, rfl, rfl, hnx, hny, hy0, hpar, hgxy, hlx, hly, hsum, hbel⟩ := hrel
            have HX1 := Hd.mk hnx
            have HY1 := Hd.mk hny
            have HY0 := Hd.mk hy0
            have HPAR := Hd.mk hpar
            have HGXY := Hd.mk hgxy
            have HSUM := Hd.mk hsum
            have HB1 := Hd.mk hbel
            clear hnx hny hy0 hpar hgxy hsum hbel
            obtain ⟨w1, hw1⟩ : ∃ w1 : World, w1 = wr := ⟨_, rfl⟩
            rw [← hw1] at HX1 HY1 HB1 ⊢
            clear hw1
            by_cases hx0 : x = 0
            · subst hx0
              have hyg : y * 2 ^ t = Nat.gcd n m := by rw [← HGT.out, ← HGXY.out, Nat.gcd_zero_left]
              have HYG := Hd.mk hyg
              have hl0 : ln 0 = 0 := ln_zero
              rw [hl0]
              clear hyg hl0 hlx
              go_wp2_with fail
              go_loopw [1, 62] (fun s1 s62 wr => ∃ (j : Nat) (A : Option Addr) (c : Nat), j ≤ t ∧ s62 = .int .i64 (j : Int) ∧ s1 = .slice A (ln (y * 2 ^ j)) c ∧ NN wr A c (y * 2 ^ j) ∧ Below w.heap.size w wr) (fun _ s62 _ => t - (intOf s62).toNat)
              case atStart => exact ⟨0, A4, c4, Nat.zero_le _, rfl, by simp, by simpa using HY1.out, HB1.out⟩
              case round =>
                obtain ⟨j, A5, c5, hjt, rfl, rfl, hn5, hbel⟩ := hrel
                have HN5 := Hd.mk hn5
                have HB5 := Hd.mk hbel
                clear hn5 hbel
                have hdb : y * 2 ^ j + y * 2 ^ j = y * 2 ^ (j + 1) := by rw [Nat.pow_succ, Nat.mul_comm (2 ^ j), ← Nat.mul_assoc, Nat.mul_comm y 2, Nat.mul_assoc]; omega
                have hlb2 : ln (y * 2 ^ j) ≤ 268435456 := by
                  refine Nat.le_trans (ln_mono ?_) l1
                  have h1 : y * 2 ^ j ≤ y * 2 ^ t := Nat.mul_le_mul_left _ (Nat.pow_le_pow_right (by omega) hjt)
                  have h2 : Nat.gcd n m ≤ n := Nat.gcd_le_left _ (by have := HN0.out; omega)
                  have := HYG.out
                  omega
                by_cases hlt : j < t
                · have hlt' : (j : Int) < (t : Int) := by omega
                  have HP := Hd.mk (rplus_calls A5 c5 (y * 2 ^ j) A5 c5 (y * 2 ^ j) wr HN5.out HN5.out (by omega) (by omega))
                  rw [hdb] at HP
                  clear hdb
                  go_wp2_with fail
                  refine HP.out.mono ?_
                  rintro e w1 ⟨A6, c6, rfl, hn6, hb6⟩
                  have HN6 := Hd.mk hn6
                  clear hn6
                  go_wp2_with fail
                  go_roundw
                  case rel => exact ⟨j + 1, A6, c6, by omega, by go_num, rfl, HN6.out, bel_then HB5.out hb6⟩
                  case measure => simp [intOf]; omega
                · have hje : j = t := by omega
                  subst hje
                  rw [HYG.out] at HN5 ⊢
                  clear hdb
                  go_wp2_with fail
                  go_ret
                  exact ⟨A5, c5, rfl, HN5.out, HB5.out⟩
            · have hlx0 : (0 : Int) < (ln x : Int) := by have := ln_pos.2 (show 0 < x by omega); omega
              have hdx : decide (0 < ln x) = true := decide_eq_true (ln_pos.2 (by omega))
              have HX0 := Hd.mk hx0
              clear hx0
              go_wp2_with fail
              go_loopg [0] x (fun g s0 wr => ∃ (x' : Nat) (A : Option Addr) (c : Nat), s0 = .slice A (ln x') c ∧ NN wr A c x' ∧ x' ≠ 0 ∧ (x' % 2 = 1 ∨ y % 2 = 1) ∧ Nat.gcd x' y = Nat.gcd a b ∧ x' ≤ x ∧ x' ≤ g ∧ Below w1.heap.size w1 wr)
              case atStart => exact ⟨x, A3, c3, rfl, HX1.out, HX0.out, HPAR.out, HGXY.out, Nat.le_refl _, Nat.le_refl _, Below.refl _ _⟩
              case round =>
                obtain ⟨x', A5, c5, rfl, hn5, hx0', hpar', hgx', hxx, hxg, hbel⟩ := hrel
                obtain ⟨xd, rfl, hcx⟩ := hn5.first hx0'
                have hlx1 : 0 < ln x' := ln_pos.2 (by omega)
                have hlx2 : ln x' ≤ 268435456 := Nat.le_trans (ln_mono hxx) hlx
                have HN5 := Hd.mk hn5
                have HX5 := Hd.mk hx0'
                have HP5 := Hd.mk hpar'
                have HG5 := Hd.mk hgx'
                have HXX := Hd.mk hxx
                have HXG := Hd.mk hxg
                have HB5 := Hd.mk hbel
                obtain ⟨xa, hxa⟩ : ∃ k, k = x' % 4294967296 := ⟨_, rfl⟩
                rw [← hxa] at hcx
                have hxal : xa < 4294967296 := by omega
                by_cases hpx : x' % 2 = 0
                · have hqa : bits .and .u32 (xa : Int) 1 = 0 := and_one0 hxal (by omega)
                  have hg := gcd_left (a := x') (b := y) hpx (by omega)
                  have h0 : x' / 2 ≠ 0 := by omega
                  have HG := Hd.mk hg
                  have H0 := Hd.mk h0
                  have HQ : Hd (x' / 2 % 2 = 1 ∨ y % 2 = 1) := ⟨.inr (by omega)⟩
                  clear hn5 hx0' hpar' hgx' hxx hxg hbel hxa hpx hg h0
                  go_wp2_with fail
                  refine (rhalf_calls (some xd) c5 x' _ HN5.out (by omega)).mono ?_
                  rintro e w3 ⟨A6, c6, rfl, hn6, hb6⟩
                  have HN6 := Hd.mk hn6
                  clear hn6 hcx
                  go_wp2_with fail
                  go_roundg (x' / 2)
                  case measure => have := HXG.out; have := HX5.out; omega
                  case rel => exact ⟨x' / 2, A6, c6, rfl, HN6.out, H0.out, HQ.out, by rw [HG.out]; exact HG5.out, by have := HXX.out; omega, Nat.le_refl _, bel_then HB5.out hb6⟩
                · have hqa : bits .and .u32 (xa : Int) 1 = 1 := and_one1 hxal (by omega)
                  have HPX : Hd (x' % 2 = 1) := ⟨by omega⟩
                  clear hn5 hx0' hpar' hgx' hxx hxg hbel hxa hpx
                  go_wp2_with fail
                  clear hcx hqa
                  obtain ⟨w3, hw3⟩ : ∃ w3 : World, w3 = wr := ⟨_, rfl⟩
                  rw [← hw3] at HN5 HB5 ⊢
                  clear hw3
                  go_loopg [1] y (fun g s1 wr => ∃ (y' : Nat) (A : Option Addr) (c : Nat), s1 = .slice A (ln y') c ∧ NN wr A c y' ∧ y' ≠ 0 ∧ Nat.gcd x' y' = Nat.gcd a b ∧ y' ≤ y ∧ y' ≤ g ∧ Below w3.heap.size w3 wr)
                  case atStart => exact ⟨y, A4, c4, rfl, HY1.out.to HB5.out, HY0.out, HG5.out, Nat.le_refl _, Nat.le_refl _, Below.refl _ _⟩
                  case round =>
                    obtain ⟨y', A7, c7, rfl, hn7, hy0', hgy', hyy, hyg, hbel⟩ := hrel
                    obtain ⟨yd, rfl, hcy⟩ := hn7.first hy0'
                    have hly1 : 0 < ln y' := ln_pos.2 (by omega)
                    have hly2 : ln y' ≤ 268435456 := Nat.le_trans (ln_mono hyy) hly
                    have HN7 := Hd.mk hn7
                    have HY7 := Hd.mk hy0'
                    have HG7 := Hd.mk hgy'
                    have HYY := Hd.mk hyy
                    have HYG := Hd.mk hyg
                    have HB7 := Hd.mk hbel
                    obtain ⟨ya, hya⟩ : ∃ k, k = y' % 4294967296 := ⟨_, rfl⟩
                    rw [← hya] at hcy
                    have hyal : ya < 4294967296 := by omega
                    by_cases hpy : y' % 2 = 0
                    · have hqb : bits .and .u32 (ya : Int) 1 = 0 := and_one0 hyal (by omega)
                      have HG := Hd.mk (gcd_right (a := x') (b := y') HPX.out hpy)
                      have H0 : Hd (y' / 2 ≠ 0) := ⟨by omega⟩
                      clear hn7 hy0' hgy' hyy hyg hbel hya hpy
                      go_wp2_with fail
                      refine (rhalf_calls (some yd) c7 y' _ HN7.out (by omega)).mono ?_
                      rintro e w4 ⟨A8, c8, rfl, hn8, hb8⟩
                      have HN8 := Hd.mk hn8
                      clear hn8 hcy
                      go_wp2_with fail
                      go_roundg (y' / 2)
                      case measure => have := HYG.out; have := HY7.out; omega
                      case rel => exact ⟨y' / 2, A8, c8, rfl, HN8.out, H0.out, by rw [HG.out]; exact HG7.out, by have := HYY.out; omega, Nat.le_refl _, bel_then HB7.out hb8⟩
                    · have hqb : bits .and .u32 (ya : Int) 1 = 1 := and_one1 hyal (by omega)
                      have HPY : Hd (y' % 2 = 1) := ⟨by omega⟩
                      clear hn7 hy0' hgy' hyy hyg hbel hya hpy
                      go_wp2_with fail
                      clear hcy hqb
                      refine (order_calls (some xd) c5 x' (some yd) c7 y' _ (HN5.out.to HB7.out) HN7.out).mono ?_
                      rintro e w5 ⟨rfl, q5, rfl⟩
                      have HNX : Hd (NN (wr.drewN q5) (some xd) c5 x') := ⟨(HN5.out.to HB7.out).to (below_drewN (Below.refl _ _) _)⟩
                      have HNY : Hd (NN (wr.drewN q5) (some yd) c7 y') := ⟨HN7.out.to (below_drewN (Below.refl _ _) _)⟩
                      have HBW : Hd (Below w.heap.size w (wr.drewN q5)) := ⟨below_drewN (bel_then (bel_then HB1.out HB5.out) HB7.out) _⟩
                      by_cases hlt : x' < y'
                      · rw [cmpv_lt hlt]
                        have hgs := gcd_sub (Nat.le_of_lt hlt)
                        have HGS : Hd (Nat.gcd (y' - x') x' = Nat.gcd a b) := ⟨by rw [hgs, Nat.gcd_comm]; exact HG7.out⟩
                        have HP := Hd.mk (rless_calls (some yd) c7 y' (some xd) c5 x' _ HNY.out HNX.out (Nat.le_of_lt hlt) (by omega))
                        have HLT := Hd.mk hlt
                        have hld : ln (y' - x') ≤ 268435456 := Nat.le_trans (ln_mono (Nat.sub_le _ _)) hly2
                        clear hgs hlt
                        go_wp2_with fail
                        refine HP.out.mono ?_
                        rintro e w6 ⟨A9, c9, rfl, hn9, hb9⟩
                        have HN9 := Hd.mk hn9
                        clear hn9
                        go_wp2_with fail
                        go_roundg (y' - x' + x')
                        case measure => have := HSUM.out; have := HXX.out; have := HYY.out; have := HX5.out; have := HLT.out; omega
                        case rel => exact ⟨y' - x', x', A9, c9, some xd, c5, rfl, rfl, HN9.out, HNX.out.to hb9, HX5.out, .inr HPX.out, HGS.out, hld, hlx2, Nat.le_refl _, bel_then HBW.out hb9⟩
                      · have hge := cmpv_ge hlt
                        obtain ⟨cv, hcv⟩ : ∃ cv, cv = cmpv x' y' := ⟨_, rfl⟩
                        rw [← hcv] at hge ⊢
                        have hgs := gcd_sub (a := x') (b := y') (by omega)
                        have HGS : Hd (Nat.gcd (x' - y') y' = Nat.gcd a b) := ⟨by rw [hgs]; exact HG7.out⟩
                        have HP := Hd.mk (rless_calls (some xd) c5 x' (some yd) c7 y' _ HNX.out HNY.out (by omega) (by omega))
                        have HLT := Hd.mk hlt
                        have hld : ln (x' - y') ≤ 268435456 := Nat.le_trans (ln_mono (Nat.sub_le _ _)) hlx2
                        clear hgs hlt hcv
                        go_wp2_with fail
                        refine HP.out.mono ?_
                        rintro e w6 ⟨A9, c9, rfl, hn9, hb9⟩
                        have HN9 := Hd.mk hn9
                        clear hn9
                        go_wp2_with fail
                        go_roundg (x' - y' + y')
                        case measure => have := HSUM.out; have := HXX.out; have := HYY.out; have := HY7.out; have := HLT.out; omega
                        case rel => exact ⟨x' - y', y', A9, c9, some yd, c7, rfl, rfl, HN9.out, HNY.out.to hb9, HY7.out, .inr HPY.out, HGS.out, hld, hly2, Nat.le_refl _, bel_then HBW.out hb9⟩
      · have hqa : bits .and .u32 (xa : Int) 1 = 1 := and_one1 hxal (by omega)
        have HPB : Hd (a % 2 = 1 ∨ b % 2 = 1) := ⟨.inl (by omega)⟩
        clear hxa hxb hpa
        go_wp2_with fail
        clear hca hcb hqa
        go_loopg [0, 1] (a + b) (fun g s0 s1 wr => ∃ (a' b' : Nat) (A : Option Addr) (c : Nat) (A' : Option Addr) (c' : Nat), s0 = .slice A (ln a') c ∧ s1 = .slice A' (ln b') c' ∧ NN wr A c a' ∧ NN wr A' c' b' ∧ b' ≠ 0 ∧ (a' % 2 = 1 ∨ b' % 2 = 1) ∧ Nat.gcd a' b' = Nat.gcd a b ∧ ln a' ≤ 268435456 ∧ ln b' ≤ 268435456 ∧ a' + b' ≤ g ∧ Below w.heap.size w wr)
        case atStart => exact ⟨a, b, some ad, c, some bd, c', rfl, rfl, HA.out, HBb.out, HB0.out, HPB.out, rfl, hla, hlb, Nat.le_refl _, HB.out⟩
        case round => as_aux_lemma =>
          obtain ⟨x, y, A3, c3, A4, c4, rfl, rfl, hnx, hny, hy0, hpar, hgxy, hlx, hly, hsum, hbel⟩ := hrel
          have HX1 := Hd.mk hnx
          have HY1 := Hd.mk hny
          have HY0 := Hd.mk hy0
          have HPAR := Hd.mk hpar
          have HGXY := Hd.mk hgxy
          have HSUM := Hd.mk hsum
          have HB1 := Hd.mk hbel
          clear hnx hny hy0 hpar hgxy hsum hbel
          obtain ⟨w1, hw1⟩ : ∃ w1 : World, w1 = wr := ⟨_, rfl⟩
          rw [← hw1] at HX1 HY1 HB1 ⊢
          clear hw1
          by_cases hx0 : x = 0
          · subst hx0
            have hyg : y * 2 ^ t = Nat.gcd n m := by rw [← HGT.out, ← HGXY.out, Nat.gcd_zero_left]
            have HYG := Hd.mk hyg
            have hl0 : ln 0 = 0 := ln_zero
            rw [hl0]
            clear hyg hl0 hlx
            go_wp2_with fail
            go_loopw [1, 62] (fun s1 s62 wr => ∃ (j : Nat) (A : Option Addr) (c : Nat), j ≤ t ∧ s62 = .int .i64 (j : Int) ∧ s1 = .slice A (ln (y * 2 ^ j)) c ∧ NN wr A c (y * 2 ^ j) ∧ Below w.heap.size w wr) (fun _ s62 _ => t - (intOf s62).toNat)
            case atStart => exact ⟨0, A4, c4, Nat.zero_le _, rfl, by simp, by simpa using HY1.out, HB1.out⟩
            case round =>
              obtain ⟨j, A5, c5, hjt, rfl, rfl, hn5, hbel⟩ := hrel
              have HN5 := Hd.mk hn5
              have HB5 := Hd.mk hbel
              clear hn5 hbel
              have hdb : y * 2 ^ j + y * 2 ^ j = y * 2 ^ (j + 1) := by rw [Nat.pow_succ, Nat.mul_comm (2 ^ j), ← Nat.mul_assoc, Nat.mul_comm y 2, Nat.mul_assoc]; omega
              have hlb2 : ln (y * 2 ^ j) ≤ 268435456 := by
                refine Nat.le_trans (ln_mono ?_) l1
                have h1 : y * 2 ^ j ≤ y * 2 ^ t := Nat.mul_le_mul_left _ (Nat.pow_le_pow_right (by omega) hjt)
                have h2 : Nat.gcd n m ≤ n := Nat.gcd_le_left _ (by have := HN0.out; omega)
                have := HYG.out
                omega
              by_cases hlt : j < t
              · have hlt' : (j : Int) < (t : Int) := by omega
                have HP := Hd.mk (rplus_calls A5 c5 (y * 2 ^ j) A5 c5 (y * 2 ^ j) wr HN5.out HN5.out (by omega) (by omega))
                rw [hdb] at HP
                clear hdb
                go_wp2_with fail
                refine HP.out.mono ?_
                rintro e w1 ⟨A6, c6, rfl, hn6, hb6⟩
                have HN6 := Hd.mk hn6
                clear hn6
                go_wp2_with fail
                go_roundw
                case rel => exact ⟨j + 1, A6, c6, by omega, by go_num, rfl, HN6.out, bel_then HB5.out hb6⟩
                case measure => simp [intOf]; omega
              · have hje : j = t := by omega
                subst hje
                rw [HYG.out] at HN5 ⊢
                clear hdb
                go_wp2_with fail
                go_ret
                exact ⟨A5, c5, rfl, HN5.out, HB5.out⟩
          · have hlx0 : (0 : Int) < (ln x : Int) := by have := ln_pos.2 (show 0 < x by omega); omega
            have hdx : decide (0 < ln x) = true := decide_eq_true (ln_pos.2 (by omega))
            have HX0 := Hd.mk hx0
            clear hx0
            go_wp2_with fail
            go_loopg [0] x (fun g s0 wr => ∃ (x' : Nat) (A : Option Addr) (c : Nat), s0 = .slice A (ln x') c ∧ NN wr A c x' ∧ x' ≠ 0 ∧ (x' % 2 = 1 ∨ y % 2 = 1) ∧ Nat.gcd x' y = Nat.gcd a b ∧ x' ≤ x ∧ x' ≤ g ∧ Below w1.heap.size w1 wr)
            case atStart => exact ⟨x, A3, c3, rfl, HX1.out, HX0.out, HPAR.out, HGXY.out, Nat.le_refl _, Nat.le_refl _, Below.refl _ _⟩
            case round =>
              obtain ⟨x', A5, c5, rfl, hn5, hx0', hpar', hgx', hxx, hxg, hbel⟩ := hrel
              obtain ⟨xd, rfl, hcx⟩ := hn5.first hx0'
              have hlx1 : 0 < ln x' := ln_pos.2 (by omega)
              have hlx2 : ln x' ≤ 268435456 := Nat.le_trans (ln_mono hxx) hlx
              have HN5 := Hd.mk hn5
              have HX5 := Hd.mk hx0'
              have HP5 := Hd.mk hpar'
              have HG5 := Hd.mk hgx'
              have HXX := Hd.mk hxx
              have HXG := Hd.mk hxg
              have HB5 := Hd.mk hbel
              obtain ⟨xa, hxa⟩ : ∃ k, k = x' % 4294967296 := ⟨_, rfl⟩
              rw [← hxa] at hcx
              have hxal : xa < 4294967296 := by omega
              by_cases hpx : x' % 2 = 0
              · have hqa : bits .and .u32 (xa : Int) 1 = 0 := and_one0 hxal (by omega)
                have hg := gcd_left (a := x') (b := y) hpx (by omega)
                have h0 : x' / 2 ≠ 0 := by omega
                have HG := Hd.mk hg
                have H0 := Hd.mk h0
                have HQ : Hd (x' / 2 % 2 = 1 ∨ y % 2 = 1) := ⟨.inr (by omega)⟩
                clear hn5 hx0' hpar' hgx' hxx hxg hbel hxa hpx hg h0
                go_wp2_with fail
                refine (rhalf_calls (some xd) c5 x' _ HN5.out (by omega)).mono ?_
                rintro e w3 ⟨A6, c6, rfl, hn6, hb6⟩
                have HN6 := Hd.mk hn6
                clear hn6 hcx
                go_wp2_with fail
                go_roundg (x' / 2)
                case measure => have := HXG.out; have := HX5.out; omega
                case rel => exact ⟨x' / 2, A6, c6, rfl, HN6.out, H0.out, HQ.out, by rw [HG.out]; exact HG5.out, by have := HXX.out; omega, Nat.le_refl _, bel_then HB5.out hb6⟩
              · have hqa : bits .and .u32 (xa : Int) 1 = 1 := and_one1 hxal (by omega)
                have HPX : Hd (x' % 2 = 1) := ⟨by omega⟩
                clear hn5 hx0' hpar' hgx' hxx hxg hbel hxa hpx
                go_wp2_with fail
                clear hcx hqa
                obtain ⟨w3, hw3⟩ : ∃ w3 : World, w3 = wr := ⟨_, rfl⟩
                rw [← hw3] at HN5 HB5 ⊢
                clear hw3
                go_loopg [1] y (fun g s1 wr => ∃ (y' : Nat) (A : Option Addr) (c : Nat), s1 = .slice A (ln y') c ∧ NN wr A c y' ∧ y' ≠ 0 ∧ Nat.gcd x' y' = Nat.gcd a b ∧ y' ≤ y ∧ y' ≤ g ∧ Below w3.heap.size w3 wr)
                case atStart => exact ⟨y, A4, c4, rfl, HY1.out.to HB5.out, HY0.out, HG5.out, Nat.le_refl _, Nat.le_refl _, Below.refl _ _⟩
                case round =>
                  obtain ⟨y', A7, c7, rfl, hn7, hy0', hgy', hyy, hyg, hbel⟩ := hrel
                  obtain ⟨yd, rfl, hcy⟩ := hn7.first hy0'
                  have hly1 : 0 < ln y' := ln_pos.2 (by omega)
                  have hly2 : ln y' ≤ 268435456 := Nat.le_trans (ln_mono hyy) hly
                  have HN7 := Hd.mk hn7
                  have HY7 := Hd.mk hy0'
                  have HG7 := Hd.mk hgy'
                  have HYY := Hd.mk hyy
                  have HYG := Hd.mk hyg
                  have HB7 := Hd.mk hbel
                  obtain ⟨ya, hya⟩ : ∃ k, k = y' % 4294967296 := ⟨_, rfl⟩
                  rw [← hya] at hcy
                  have hyal : ya < 4294967296 := by omega
                  by_cases hpy : y' % 2 = 0
                  · have hqb : bits .and .u32 (ya : Int) 1 = 0 := and_one0 hyal (by omega)
                    have HG := Hd.mk (gcd_right (a := x') (b := y') HPX.out hpy)
                    have H0 : Hd (y' / 2 ≠ 0) := ⟨by omega⟩
                    clear hn7 hy0' hgy' hyy hyg hbel hya hpy
                    go_wp2_with fail
                    refine (rhalf_calls (some yd) c7 y' _ HN7.out (by omega)).mono ?_
                    rintro e w4 ⟨A8, c8, rfl, hn8, hb8⟩
                    have HN8 := Hd.mk hn8
                    clear hn8 hcy
                    go_wp2_with fail
                    go_roundg (y' / 2)
                    case measure => have := HYG.out; have := HY7.out; omega
                    case rel => exact ⟨y' / 2, A8, c8, rfl, HN8.out, H0.out, by rw [HG.out]; exact HG7.out, by have := HYY.out; omega, Nat.le_refl _, bel_then HB7.out hb8⟩
                  · have hqb : bits .and .u32 (ya : Int) 1 = 1 := and_one1 hyal (by omega)
                    have HPY : Hd (y' % 2 = 1) := ⟨by omega⟩
                    clear hn7 hy0' hgy' hyy hyg hbel hya hpy
                    go_wp2_with fail
                    clear hcy hqb
                    refine (order_calls (some xd) c5 x' (some yd) c7 y' _ (HN5.out.to HB7.out) HN7.out).mono ?_
                    rintro e w5 ⟨rfl, q5, rfl⟩
                    have HNX : Hd (NN (wr.drewN q5) (some xd) c5 x') := ⟨(HN5.out.to HB7.out).to (below_drewN (Below.refl _ _) _)⟩
                    have HNY : Hd (NN (wr.drewN q5) (some yd) c7 y') := ⟨HN7.out.to (below_drewN (Below.refl _ _) _)⟩
                    have HBW : Hd (Below w.heap.size w (wr.drewN q5)) := ⟨below_drewN (bel_then (bel_then HB1.out HB5.out) HB7.out) _⟩
                    by_cases hlt : x' < y'
                    · rw [cmpv_lt hlt]
                      have hgs := gcd_sub (Nat.le_of_lt hlt)
                      have HGS : Hd (Nat.gcd (y' - x') x' = Nat.gcd a b) := ⟨by rw [hgs, Nat.gcd_comm]; exact HG7.out⟩
                      have HP := Hd.mk (rless_calls (some yd) c7 y' (some xd) c5 x' _ HNY.out HNX.out (Nat.le_of_lt hlt) (by omega))
                      have HLT := Hd.mk hlt
                      have hld : ln (y' - x') ≤ 268435456 := Nat.le_trans (ln_mono (Nat.sub_le _ _)) hly2
                      clear hgs hlt
                      go_wp2_with fail
                      refine HP.out.mono ?_
                      rintro e w6 ⟨A9, c9, rfl, hn9, hb9⟩
                      have HN9 := Hd.mk hn9
                      clear hn9
                      go_wp2_with fail
                      go_roundg (y' - x' + x')
                      case measure => have := HSUM.out; have := HXX.out; have := HYY.out; have := HX5.out; have := HLT.out; omega
                      case rel => exact ⟨y' - x', x', A9, c9, some xd, c5, rfl, rfl, HN9.out, HNX.out.to hb9, HX5.out, .inr HPX.out, HGS.out, hld, hlx2, Nat.le_refl _, bel_then HBW.out hb9⟩
                    · have hge := cmpv_ge hlt
                      obtain ⟨cv, hcv⟩ : ∃ cv, cv = cmpv x' y' := ⟨_, rfl⟩
                      rw [← hcv] at hge ⊢
                      have hgs := gcd_sub (a := x') (b := y') (by omega)
                      have HGS : Hd (Nat.gcd (x' - y') y' = Nat.gcd a b) := ⟨by rw [hgs]; exact HG7.out⟩
                      have HP := Hd.mk (rless_calls (some xd) c5 x' (some yd) c7 y' _ HNX.out HNY.out (by omega) (by omega))
                      have HLT := Hd.mk hlt
                      have hld : ln (x' - y') ≤ 268435456 := Nat.le_trans (ln_mono (Nat.sub_le _ _)) hlx2
                      clear hgs hlt hcv
                      go_wp2_with fail
                      refine HP.out.mono ?_
                      rintro e w6 ⟨A9, c9, rfl, hn9, hb9⟩
                      have HN9 := Hd.mk hn9
                      clear hn9
                      go_wp2_with fail
                      go_roundg (x' - y' + y')
                      case measure => have := HSUM.out; have := HXX.out; have := HYY.out; have := HY7.out; have := HLT.out; omega
                      case rel => exact ⟨x' - y', y', A9, c9, some yd, c7, rfl, rfl, HN9.out, HNY.out.to hb9, HY7.out, .inr HPY.out, HGS.out, hld, hly2, Nat.le_refl _, bel_then HBW.out hb9⟩
end Go.Proofs.Ytcjcpfafalkceaa
