/- Part 21 of the texts behind this claim. -/
import Derived.Lib.ItoaNum
import Derived.BigCall
import Derived.OrdersHeld
import Derived.Test.YtddbmckbankmeaaGreatKc1
import Derived.Test.YtddbmckbankmeaaGreatKc15
import Derived.Test.YtddbmckbankmeaaGreatKc16
import Derived.Test.YtddbmckbankmeaaGreatKc18
import Derived.Test.YtddbmckbankmeaaGreatKc19
import Derived.Test.YtddbmckbankmeaaGreatKc20
set_option linter.unusedVariables false
namespace Go.Proofs.YtddbmckbankmeaaGreat.Ex
open Go.RowKit
theorem dig_getD (n k : Nat) : (dig n).getD k 0 = n / B ^ k % B := by
 induction k generalizing n with
 | zero =>
  by_cases h : n = 0
  ·subst h; rw [dig_zero]; simp
  rw [dig_pos h]; simp
 | succ k ih =>
  by_cases h : n = 0
  ·subst h; rw [dig_zero]; simp
  rw [dig_pos h]; show (dig (n / B)).getD k 0 = _; rw [ih, Nat.div_div_eq_div_mul, Nat.pow_succ, Nat.mul_comm (B ^ k) B]
theorem dig_take_succ {n k : Nat} (h : k < ln n) : (dig n).take (k + 1) = (dig n).take k ++ [n / B ^ k % 4294967296] := by
 rw [List.take_succ_eq_append_getElem h]; congr 2
 have := dig_getD n k; simp only [List.getD_eq_getElem?_getD, List.getElem?_eq_getElem (show k < (dig n).length from h)] at this; exact this
theorem div_pos_iff {n k : Nat} : 0 < n / B ^ k ↔ k < ln n := by
 constructor
 ·intro h; rcases Nat.lt_or_ge k (ln n) with h1 | h1
  ·exact h1
  have := lt_pow_ln n; have h2 : B ^ ln n ≤ B ^ k := Nat.pow_le_pow_right B_pos h1; rw [Nat.div_eq_of_lt (by omega)] at h; omega
 intro h; exact Nat.div_pos (pow_le_of_ln h) (Nat.pow_pos B_pos)
set_option maxRecDepth 100000 in
theorem natural_calls (n : Nat) (hn : ln n ≤ 2) (w : World) :
  Calls Tryz.prog 50 #[.int .u64 (n : Int)] w (RetN n w) := by
 obtain ⟨i0, hi, hz0, hz1, hz2⟩ := info_parts Tryz.info_word; have HN2 := Hd.mk hn; clear hn; go_enter Tryz.func50, Tryz.ntmps50
 go_wp2
 go_loopw [0, 3] (fun s0 s3 wr => ∃ (v : Value) (k : Nat), v = s3 ∧ k ≤ ln n ∧ s0 = .int .u64 ((n / B ^ k : Nat) : Int) ∧ wr.ownsRow w.heap.size 123 1 v k (cells ((dig n).take k)) ∧ Below w.heap.size w wr) (fun s0 _ _ => (intOf s0).toNat)
 case atStart => exact ⟨_, 0, rfl, Nat.zero_le _, by simp, ⟨rfl, .inl ⟨rfl, rfl⟩⟩, Below.refl _ _⟩
 case round =>
  obtain ⟨v, k, rfl, hk, rfl, hown, hbel⟩ := hrel; have HO := Hd.mk hown; have HB := Hd.mk hbel; clear hown hbel; obtain ⟨q, hq⟩ : ∃ q, q = n / B ^ k := ⟨_, rfl⟩; rw [← hq]
  have hql : q ≤ 18446744073709551615 := by
   have h1 := lt_pow_ln n; have h2 : B ^ ln n ≤ B ^ 2 := Nat.pow_le_pow_right B_pos HN2.out; have h3 : B ^ 2 = 18446744073709551616 := by decide
   have h4 : q ≤ n := by rw [hq]; exact Nat.div_le_self _ _
   omega
  by_cases hlt : k < ln n
  ·have hq0 : 0 < q := by rw [hq]; exact div_pos_iff.2 hlt
   obtain ⟨x, hx⟩ : ∃ x : Nat, x = q % 4294967296 := ⟨_, rfl⟩; have hx' : ((q : Nat) : Int) % 4294967296 = (x : Int) := by rw [hx]; omega
   have hts := dig_take_succ hlt; rw [← hq, ← hx] at hts; have HTS := Hd.mk hts; obtain ⟨q2, hq2⟩ : ∃ q2 : Nat, q2 = q / 4294967296 := ⟨_, rfl⟩; have hq2' : ((q : Nat) : Int) / 4294967296 = (q2 : Int) := by rw [hq2]; omega
   have hq3 : q2 = n / B ^ (k + 1) := by rw [hq2, hq, Nat.div_div_eq_div_mul, Nat.pow_succ]; rfl
   have HQ3 := Hd.mk hq3; have hlt2 : q2 < q := by rw [hq2]; exact Nat.div_lt_self hq0 (by decide)
   clear hx hq2 hq3 hts hq; go_wp2_with (first | (at_builtin; refine wpList_append_any _ rfl (.tmp 8) (.tmp 11) 48 rfl w.heap.size 123 i0 (.int .u32 0) 1 4 Tryz.underlying48 hi hz0 hz1 hz2 rfl (by decide) v k (cells ((dig n).take k)) rfl (HO.out.alloc _) _ (some ⟨wr.heap.size, 0, none⟩) 1 1 (cells [x]) rfl (reads_new _ _ _) (cells_one _) (by have := HN2.out; unfold maxLen; omega) (by have := HN2.out; omega) (by have := HB.out.size; simp; omega) ?_; intro v1 w1 hown1 hg1 hat1))
   rw [← cells_append] at hown1; go_roundw
   case rel => exact ⟨_, k + 1, rfl, by omega, by rw [HQ3.out], by rw [HTS.out]; exact hown1, (below_alloc HB.out _).grown hg1 (by have := HB.out.size; simp; omega) (own_ge HO.out)⟩
   case measure => simp [intOf]; omega
  have hke : k = ln n := by omega
  have hq0 : q = 0 := by
   rcases Nat.eq_zero_or_pos q with h | h
   ·exact h
   rw [hq] at h; exact absurd (div_pos_iff.1 h) hlt
  have hown2 : wr.ownsRow w.heap.size 123 1 v (dig n).length (cells (dig n)) := by
   have := HO.out; rw [hke, List.take_of_length_le (show (dig n).length ≤ ln n from Nat.le_refl _)] at this; exact this
  obtain ⟨A3, c3, hv3, hrn, hc3, hcm⟩ := own_slice hown2; subst hv3; subst hq0; have HR := Hd.mk hrn; clear hrn hown2 hq hke HO; go_wp2
  go_ret
  exact ⟨_, _, rfl, ⟨HR.out, hc3, hcm⟩, HB.out⟩
def nbits (n : Nat) : Nat := if n = 0 then 0 else Nat.log2 n + 1
theorem nbits_le {n k : Nat} : nbits n ≤ k ↔ n < 2 ^ k := by
 unfold nbits; by_cases h : n = 0
 ·subst h; simp [Nat.pow_pos]
 rw [if_neg h, ← Nat.log2_lt h]; omega
theorem nbits_is {n k : Nat} (h1 : n < 2 ^ k) (h2 : 0 < k → 2 ^ (k - 1) ≤ n) : nbits n = k := by
 have a := nbits_le.2 h1; rcases Nat.eq_zero_or_pos k with h | h
 ·omega
 have b : ¬ nbits n ≤ k - 1 := fun hc => by
  have := nbits_le.1 hc; have := h2 h; omega
 omega
theorem nbits_lo {n : Nat} (h : n ≠ 0) : 2 ^ (nbits n - 1) ≤ n := by
 rcases Nat.lt_or_ge n (2 ^ (nbits n - 1)) with h1 | h1
 ·have h2 := nbits_le.2 h1; have h3 : nbits n ≠ 0 := by unfold nbits; rw [if_neg h]; omega
  omega
 exact h1
theorem nbits_hi (n : Nat) : n < 2 ^ nbits n := nbits_le.1 (Nat.le_refl _)
theorem pow_B (k : Nat) : B ^ k = 2 ^ (32 * k) := by rw [Nat.pow_mul]; rfl
theorem bitLen_nbits {x : Nat} (h : x < 4294967296) : Lib.bitLen x = nbits x := by
 by_cases h0 : x = 0
 ·subst h0; decide
 obtain ⟨h1, h2, h3⟩ := Lib.bitLenAux_bounds 64 x (Nat.lt_of_lt_of_le h (by decide)) h0; exact (nbits_is h3 (fun _ => h2)).symm
end Go.Proofs.YtddbmckbankmeaaGreat.Ex
set_option linter.unusedVariables false
namespace Go.Proofs.YtddbmckbankmeaaGreat.Ex
open Go.RowKit
theorem run_fld_whole (b s : Value) (W : World) : (Instr.field 100 (.agg #[b, s]) 1).run Tryz.prog W = .ok s W := by
 simp [Instr.field, run_underlying Tryz.underlying100, asAgg, go_sem]
theorem run_fld_Z (b s : Value) (W : World) : (Instr.field 50 (.agg #[b, s]) 1).run Tryz.prog W = .ok s W := by
 simp [Instr.field, run_underlying Tryz.underlying50, asAgg, go_sem]
attribute [local go_sem] run_fld_whole run_fld_Z
theorem ln_two {n : Int} (h1 : -9223372036854775808 ≤ n) (h2 : n ≤ 9223372036854775807) : ln n.natAbs ≤ 2 := by
 apply ln_le; have h3 : B ^ 2 = 18446744073709551616 := by decide
 rw [h3]; omega
theorem wrap_neg {n : Int} (h1 : -9223372036854775808 ≤ n) (h : n < 0) : IntKind.u64.wrap (-IntKind.u64.wrap n) = ((n.natAbs : Nat) : Int) := by
 rw [IntKind.wrap_u64, IntKind.wrap_u64]; omega
set_option maxRecDepth 100000 in
theorem Whole_calls (n : Int) (w : World) (h1 : -9223372036854775808 ≤ n) (h2 : n ≤ 9223372036854775807) :
  Calls Tryz.prog 18 #[.int .i64 n] w (RetZ n w) := by
 by_cases hn : n < 0
 ·have HC : Hd (∀ W, Calls Tryz.prog 50 #[.int .u64 (-(n + 1) + 1)] W (RetN n.natAbs W)) := ⟨fun W => by rw [show -(n + 1) + 1 = ((n.natAbs : Nat) : Int) from by omega]; exact natural_calls _ (ln_two h1 h2) W⟩; have HD := Hd.mk (decide_eq_true hn); go_enter Tryz.func18, Tryz.ntmps18
  go_wp2_with fail
  refine (HC.out _).mono ?_; rintro e w1 ⟨A3, c3, rfl, hn1, hb1⟩; obtain ⟨hc1, hf1⟩ := bcell hb1; have hz1 : w.heap.size < w1.heap.size := by have := hb1.size; simp at this; omega
  have HN := Hd.mk hn1; have HB : Hd (Below w.heap.size w w1) := ⟨bel_then (by repeat (first | exact HB.out | exact Below.refl _ _ | refine below_alloc ?_ _ | refine below_drewN ?_ _ | refine below_drew ?_ | refine below_set ?_ (by first | exact Nat.le_refl _ | omega | (simp; done) | (simp; omega)) _)) hb1⟩; clear hn1 hb1; go_wp2_with fail
  have g0 : w1.cell? ⟨w.heap.size, 0, none⟩ = some (.bool false) := (hc1 _ _ (by simp)).trans (blk_new (W := w) rfl [.bool false, .slice none 0 0] 50).c0; have g1 : w1.cell? ⟨w.heap.size, 1, none⟩ = some (.slice none 0 0) := (hc1 _ _ (by simp)).trans (blk_new (W := w) rfl [.bool false, .slice none 0 0] 50).c1; obtain ⟨k0, k1, k2⟩ := two_set g0 g1 (.bool true) (.slice A3 (ln n.natAbs) c3); refine bodyPost_ret (v := .agg #[.bool true, .slice A3 (ln n.natAbs) c3]) (by simp [results, Tryz.results18, go_sem, k0, k1]) rfl ?_; exact ⟨A3, c3, by rw [HD.out], (HN.out.set_ g0 (by intro t; simp) _).set_ k2 (by intro t; simp) _, by repeat (first | exact HB.out | exact Below.refl _ _ | refine below_alloc ?_ _ | refine below_drewN ?_ _ | refine below_drew ?_ | refine below_set ?_ (by first | exact Nat.le_refl _ | omega | (simp; done) | (simp; omega)) _)⟩
 have HC : Hd (∀ W, Calls Tryz.prog 50 #[.int .u64 n] W (RetN n.natAbs W)) := ⟨fun W => by have := natural_calls n.natAbs (ln_two h1 h2) W; rwa [show ((n.natAbs : Nat) : Int) = n from by omega] at this⟩; have HD := Hd.mk (decide_eq_false hn); go_enter Tryz.func18, Tryz.ntmps18
 go_wp2_with fail
 refine (HC.out _).mono ?_; rintro e w1 ⟨A3, c3, rfl, hn1, hb1⟩; obtain ⟨hc1, hf1⟩ := bcell hb1; have hz1 : w.heap.size < w1.heap.size := by have := hb1.size; simp at this; omega
 have HN := Hd.mk hn1; have HB : Hd (Below w.heap.size w w1) := ⟨bel_then (by repeat (first | exact HB.out | exact Below.refl _ _ | refine below_alloc ?_ _ | refine below_drewN ?_ _ | refine below_drew ?_ | refine below_set ?_ (by first | exact Nat.le_refl _ | omega | (simp; done) | (simp; omega)) _)) hb1⟩; clear hn1 hb1; go_wp2_with fail
 have g0 : w1.cell? ⟨w.heap.size, 0, none⟩ = some (.bool false) := (hc1 _ _ (by simp)).trans (blk_new (W := w) rfl [.bool false, .slice none 0 0] 50).c0; have g1 : w1.cell? ⟨w.heap.size, 1, none⟩ = some (.slice none 0 0) := (hc1 _ _ (by simp)).trans (blk_new (W := w) rfl [.bool false, .slice none 0 0] 50).c1; obtain ⟨k0, k1, k2⟩ := two_set g0 g1 (.bool false) (.slice A3 (ln n.natAbs) c3); refine bodyPost_ret (v := .agg #[.bool false, .slice A3 (ln n.natAbs) c3]) (by simp [results, Tryz.results18, go_sem, k0, k1]) rfl ?_; exact ⟨A3, c3, by rw [HD.out], (HN.out.set_ g0 (by intro t; simp) _).set_ k2 (by intro t; simp) _, by repeat (first | exact HB.out | exact Below.refl _ _ | refine below_alloc ?_ _ | refine below_drewN ?_ _ | refine below_drew ?_ | refine below_set ?_ (by first | exact Nat.le_refl _ | omega | (simp; done) | (simp; omega)) _)⟩
set_option maxRecDepth 100000 in
theorem ofInt_calls (n : Int) (w : World) (h1 : -9223372036854775808 ≤ n) (h2 : n ≤ 9223372036854775807) :
  Calls Tryz.prog 61 #[.int .i64 n] w (RetZ n w) := by
 have hB : n.natAbs / B < B := by unfold B; omega
 by_cases hn : n < 0
 ·have HC : Hd (∀ W, Calls Tryz.prog 92 #[.int .u64 (IntKind.u64.wrap (-IntKind.u64.wrap n))] W (RetN n.natAbs W)) := ⟨fun W => by rw [wrap_neg h1 hn]; exact small_calls _ hB W⟩; have HD := Hd.mk (decide_eq_true hn); clear hB; go_enter Tryz.func61, Tryz.ntmps61
  go_wp2_with fail
  refine (HC.out _).mono ?_; rintro e w1 ⟨A3, c3, rfl, hn1, hb1⟩; obtain ⟨hc1, hf1⟩ := bcell hb1; have hz1 : w.heap.size < w1.heap.size := by have := hb1.size; simp at this; omega
  have HN := Hd.mk hn1; have HB : Hd (Below w.heap.size w w1) := ⟨bel_then (by repeat (first | exact HB.out | exact Below.refl _ _ | refine below_alloc ?_ _ | refine below_drewN ?_ _ | refine below_drew ?_ | refine below_set ?_ (by first | exact Nat.le_refl _ | omega | (simp; done) | (simp; omega)) _)) hb1⟩; clear hn1 hb1; go_wp2_with fail
  have g0 : w1.cell? ⟨w.heap.size, 0, none⟩ = some (.bool false) := (hc1 _ _ (by simp)).trans (blk_new (W := w) rfl [.bool false, .slice none 0 0] 100).c0; have g1 : w1.cell? ⟨w.heap.size, 1, none⟩ = some (.slice none 0 0) := (hc1 _ _ (by simp)).trans (blk_new (W := w) rfl [.bool false, .slice none 0 0] 100).c1; obtain ⟨k0, k1, k2⟩ := two_set g0 g1 (.bool true) (.slice A3 (ln n.natAbs) c3); refine bodyPost_ret (v := .agg #[.bool true, .slice A3 (ln n.natAbs) c3]) (by simp [results, Tryz.results61, go_sem, k0, k1]) rfl ?_; exact ⟨A3, c3, by rw [HD.out], (HN.out.set_ g0 (by intro t; simp) _).set_ k2 (by intro t; simp) _, by repeat (first | exact HB.out | exact Below.refl _ _ | refine below_alloc ?_ _ | refine below_drewN ?_ _ | refine below_drew ?_ | refine below_set ?_ (by first | exact Nat.le_refl _ | omega | (simp; done) | (simp; omega)) _)⟩
 have HC : Hd (∀ W, Calls Tryz.prog 92 #[.int .u64 n] W (RetN n.natAbs W)) := ⟨fun W => by have := small_calls n.natAbs hB W; rwa [show ((n.natAbs : Nat) : Int) = n from by omega] at this⟩; have HD := Hd.mk (decide_eq_false hn); clear hB; go_enter Tryz.func61, Tryz.ntmps61
 go_wp2_with fail
 refine (HC.out _).mono ?_; rintro e w1 ⟨A3, c3, rfl, hn1, hb1⟩; obtain ⟨hc1, hf1⟩ := bcell hb1; have hz1 : w.heap.size < w1.heap.size := by have := hb1.size; simp at this; omega
 have HN := Hd.mk hn1; have HB : Hd (Below w.heap.size w w1) := ⟨bel_then (by repeat (first | exact HB.out | exact Below.refl _ _ | refine below_alloc ?_ _ | refine below_drewN ?_ _ | refine below_drew ?_ | refine below_set ?_ (by first | exact Nat.le_refl _ | omega | (simp; done) | (simp; omega)) _)) hb1⟩; clear hn1 hb1; go_wp2_with fail
 have g0 : w1.cell? ⟨w.heap.size, 0, none⟩ = some (.bool false) := (hc1 _ _ (by simp)).trans (blk_new (W := w) rfl [.bool false, .slice none 0 0] 100).c0; have g1 : w1.cell? ⟨w.heap.size, 1, none⟩ = some (.slice none 0 0) := (hc1 _ _ (by simp)).trans (blk_new (W := w) rfl [.bool false, .slice none 0 0] 100).c1; obtain ⟨k0, k1, k2⟩ := two_set g0 g1 (.bool false) (.slice A3 (ln n.natAbs) c3); refine bodyPost_ret (v := .agg #[.bool false, .slice A3 (ln n.natAbs) c3]) (by simp [results, Tryz.results61, go_sem, k0, k1]) rfl ?_; exact ⟨A3, c3, by rw [HD.out], (HN.out.set_ g0 (by intro t; simp) _).set_ k2 (by intro t; simp) _, by repeat (first | exact HB.out | exact Below.refl _ _ | refine below_alloc ?_ _ | refine below_drewN ?_ _ | refine below_drew ?_ | refine below_set ?_ (by first | exact Nat.le_refl _ | omega | (simp; done) | (simp; omega)) _)⟩
set_option maxRecDepth 100000 in
theorem FromInt_calls (n : Int) (w : World) (h1 : -9223372036854775808 ≤ n) (h2 : n ≤ 9223372036854775807) :
  Calls Tryz.prog 25 #[.int .i64 n] w (RetZ n w) := by
 have hl := ln_two h1 h2; have HO := Hd.mk (fun W => ofInt_calls n W h1 h2); have HV := Hd.mk (fun A c W h => value_calls n A c W h (by omega)); obtain ⟨b, hb⟩ : ∃ b, b = decide (n < 0) := ⟨_, rfl⟩; rw [← hb] at HV; have HBB := Hd.mk hb; clear hb; go_enter Tryz.func25, Tryz.ntmps25
 go_wp2_with fail
 refine (HO.out _).mono ?_; rintro e w0 ⟨A2, c2, rfl, hn0, hb0⟩; rw [← HBB.out]; have HN0 := Hd.mk hn0; have HB0 := Hd.mk hb0; clear hn0 hb0; go_wp2_with fail
 refine (HV.out _ _ _ HN0.out).mono ?_; rintro e w1 ⟨A3, c3, rfl, hn1, hb1⟩; rw [← HBB.out]; have HB1 := Hd.mk (bel_then HB0.out hb1); have HN := Hd.mk hn1; obtain ⟨hc1, hf1⟩ := bcell HB1.out; have hz1 : w.heap.size < w1.heap.size := by have := HB1.out.size; simp at this; omega
 have HB : Hd (Below w.heap.size w w1) := ⟨bel_then (by repeat (first | exact HB.out | exact Below.refl _ _ | refine below_alloc ?_ _ | refine below_drewN ?_ _ | refine below_drew ?_ | refine below_set ?_ (by first | exact Nat.le_refl _ | omega | (simp; done) | (simp; omega)) _)) HB1.out⟩; clear hn1 hb1; go_wp2_with fail
 have g0 : w1.cell? ⟨w.heap.size, 0, none⟩ = some (.bool false) := (hc1 _ _ (by simp)).trans (blk_new (W := w) rfl [.bool false, .slice none 0 0] 25).c0; have g1 : w1.cell? ⟨w.heap.size, 1, none⟩ = some (.slice none 0 0) := (hc1 _ _ (by simp)).trans (blk_new (W := w) rfl [.bool false, .slice none 0 0] 25).c1; obtain ⟨k0, k1, k2⟩ := two_set g0 g1 (.bool b) (.slice A3 (ln n.natAbs) c3); refine bodyPost_ret (v := .agg #[.bool b, .slice A3 (ln n.natAbs) c3]) (by simp [results, Tryz.results25, go_sem, k0, k1]) rfl ?_; exact ⟨A3, c3, by rw [HBB.out], (HN.out.set_ g0 (by intro t; simp) _).set_ k2 (by intro t; simp) _, by repeat (first | exact HB.out | exact Below.refl _ _ | refine below_alloc ?_ _ | refine below_drewN ?_ _ | refine below_drew ?_ | refine below_set ?_ (by first | exact Nat.le_refl _ | omega | (simp; done) | (simp; omega)) _)⟩
end Go.Proofs.YtddbmckbankmeaaGreat.Ex
set_option linter.unusedVariables false
namespace Go.Proofs.YtddbmckbankmeaaGreat.Ex
open Go.RowKit
def RetO (n : Nat) (w : World) (e : Ending) (w' : World) : Prop := ∃ v, e = .returned v ∧ w'.ownsRow w.heap.size 123 1 v (ln n) (cells (dig n)) ∧ Below w.heap.size w w'
theorem ownsRow_mono {w : World} {b b' : Nat} {e : TypeId} {s : Nat} {v : Value} {n : Nat} {xs : List Value} (h : w.ownsRow b e s v n xs) (hb : b' ≤ b) : w.ownsRow b' e s v n xs := by
 refine ⟨h.1, ?_⟩; rcases h.2 with h0 | ⟨g, cap, cur, h1, h2, h3⟩
 ·exact .inl h0
 exact .inr ⟨g, cap, cur, h1, Nat.le_trans hb h2, h3⟩
set_option maxRecDepth 100000 in
theorem words_own (A1 : Option Addr) (c1 n : Nat) (k : Nat) (w : World) (h1 : NN w A1 c1 n) (l1 : ln n ≤ 1073741824) (l2 : k ≤ 1073741824) :
  Calls Tryz.prog 140 #[.slice A1 (ln n) c1, .int .i64 (k : Int)] w (RetO (n * B ^ k) w) := by
 have HX := Hd.mk h1; by_cases h0 : n = 0
 ·subst h0; clear h1; rw [ln_zero, Nat.zero_mul]; go_enter Tryz.func140, Tryz.ntmps140
  go_wp2_with (first | (go_at_call 66; refine (zero_calls _ _ _ _ (by omega)).mono ?_; rintro e w' ⟨rfl, rfl⟩))
  go_ret
  exact ⟨_, rfl, by rw [ln_zero, dig_zero]; exact ⟨rfl, .inl ⟨rfl, rfl⟩⟩, Below.refl _ _⟩
 have hlp : ln n ≠ 0 := fun h => h0 (ln_eq_zero.1 h)
 have hd0 : decide (ln n = 0) = false := decide_eq_false hlp; have hmk := fun W => make_words2 98 Tryz.underlying98 (k : Int) ((k : Int) + (ln n : Int)) k (k + ln n) rfl (by omega) (by omega) (by omega) W
 have hown : (w.alloc (.cells (cells (List.replicate (k + ln n) 0)).toArray 123)).ownsRow w.heap.size 123 1 (.slice (some ⟨w.heap.size, 0, none⟩) k (k + ln n)) k (cells (List.replicate k 0)) := by
  have := own_made (heap_alloc_new w (.cells (cells (List.replicate (k + ln n) 0)).toArray 123)) (c := k + ln n) (n := k) (by simp) (by omega) (by omega) (base := w.heap.size) (Nat.le_refl _); rwa [List.take_replicate, Nat.min_eq_left (by omega)] at this
 have hrd : Reads (w.alloc (.cells (cells (List.replicate (k + ln n) 0)).toArray 123)) (w.alloc (.cells (cells (List.replicate (k + ln n) 0)).toArray 123)).heap.size 1 A1 (ln n) (cells (dig n)) := (h1.1.to (below_alloc (Below.refl _ _) _)).reads; have HO := Hd.mk hown; have HR := Hd.mk hrd; obtain ⟨i0, hi, hz0, hz1, hz2⟩ := info_parts Tryz.info_word; clear h1 hown hrd h0; go_enter Tryz.func140, Tryz.ntmps140
 go_wp2_with (first | (go_at_call 66; refine (zero_calls _ _ _ _ (by omega)).mono ?_; rintro e w' ⟨rfl, rfl⟩) | (at_builtin; refine wpList_append_any _ rfl (.tmp 12) (.tmp 13) 98 rfl w.heap.size 123 i0 (.int .u32 0) 1 4 Tryz.underlying98 hi hz0 hz1 hz2 rfl (by decide) (.slice (some ⟨w.heap.size, 0, none⟩) k (k + ln n)) k (cells (List.replicate k 0)) rfl HO.out _ A1 (ln n) c1 (cells (dig n)) rfl HR.out (cells_one _) (by unfold maxLen; omega) (by omega) (by simp) ?_; intro v1 w1 hown1 hg1 hat1))
 have hl : (List.replicate k 0 ++ dig n).length = k + ln n := by simp [ln]
 have hne : n ≠ 0 := fun h => hlp (ln_eq_zero.2 h)
 rw [← cells_append, ← hl] at hown1; rw [← dig_shift hne] at hown1; have HO1 := Hd.mk hown1; clear hown1; go_ret
 exact ⟨_, rfl, HO1.out, (below_alloc (Below.refl w.heap.size w) _).grown hg1 (by simp) (fun j e => by cases e; exact Nat.le_refl _)⟩
theorem pow_r {r : Nat} (h : r < 32) : 2 ^ r * 2 ^ (32 - r) = 4294967296 ∧ 0 < 2 ^ r := by
 rw [← Nat.pow_add, show r + (32 - r) = 32 from by omega]; exact ⟨by decide, Nat.pow_pos (by decide)⟩
theorem or_shift {o x r : Nat} (hr : r < 32) (ho : o < 2 ^ r) (hx : x < 4294967296) : o ||| (x * 2 ^ r % 4294967296) = o + x * 2 ^ r % 4294967296 := by
 obtain ⟨h1, h2⟩ := pow_r hr
 have e : x * 2 ^ r % 4294967296 = 2 ^ r * (x % 2 ^ (32 - r)) := by
  rw [← h1, Nat.mul_comm x, Nat.mul_mod_mul_left]
 rw [e, Nat.or_comm, Nat.add_comm]; exact (Nat.two_pow_add_eq_or_of_lt ho _).symm
theorem shl_word {x r : Nat} (hr : r < 32) (hx : x < 4294967296) : x * 2 ^ r < 18446744073709551616 ∧ x * 2 ^ r / 4294967296 < 2 ^ r := by
 obtain ⟨h1, h2⟩ := pow_r hr; have h3 : 2 ^ r ≤ 2 ^ 31 := Nat.pow_le_pow_right (by decide) (by omega); have h4 : (2 : Nat) ^ 31 = 2147483648 := by decide
 have h5 : x * 2 ^ r < 4294967296 * 2 ^ r := Nat.mul_lt_mul_of_pos_right hx h2; constructor
 ·omega
 rw [Nat.div_lt_iff_lt_mul (by decide), Nat.mul_comm (2 ^ r)]; exact h5
theorem val_two_sets {ds : List Nat} {k o lo hi V : Nat} (hl : k + 1 < ds.length) (ho : ds.getD k 0 = o) (hz : ds.getD (k + 1) 0 = 0) (h : val ds = V) :
  val ((ds.set k (o + lo)).set (k + 1) hi) = V + B ^ k * (lo + B * hi) := by
 have e1 := val_set (ds := ds) (i := k) (by omega) (o + lo); have e2 := val_set (ds := ds.set k (o + lo)) (i := k + 1) (by rw [List.length_set]; exact hl) hi; rw [getD_set_ne (by omega), hz] at e2; rw [ho, Nat.mul_add] at e1; simp only [Nat.pow_succ, Nat.mul_assoc] at e2; rw [Nat.mul_add]; omega
set_option maxHeartbeats 1000000 in
set_option maxRecDepth 100000 in
theorem shl_calls (A1 : Option Addr) (c1 n s : Nat) (w : World) (h1 : NN w A1 c1 n) (l1 : ln n ≤ 536870912) (l2 : s ≤ 1073741824) :
  Calls Tryz.prog 120 #[.slice A1 (ln n) c1, .int .i64 (s : Int)] w (RetO (n * 2 ^ s) w) := by
 have HX := Hd.mk h1; clear h1; obtain ⟨r, hr⟩ : ∃ r, r = s % 32 := ⟨_, rfl⟩; obtain ⟨q, hq⟩ : ∃ q, q = s / 32 := ⟨_, rfl⟩; have hr32 : r < 32 := by omega
 have hsr : (s : Int) % 32 = (r : Int) := by omega
 have hsq : (s : Int) / 32 = (q : Int) := by omega
 have hss : n * 2 ^ s = n * 2 ^ r * B ^ q := by
  rw [pow_B, Nat.mul_assoc, ← Nat.pow_add, hr, hq, Nat.mod_add_div]
 have hql : q ≤ 1073741824 := by omega
 have HSS := Hd.mk hss; clear hss hr hq; have hmk := fun W => make_words 98 Tryz.underlying98 ((ln n : Int) + 1) (ln n + 1) (by omega) (by omega) W
 go_enter Tryz.func120, Tryz.ntmps120
 go_wp2
 clear hmk; go_loopw [15] (fun s15 wr => ∃ (k : Nat) (ds : List Nat), k ≤ ln n ∧ s15 = .int .i64 k ∧ ds.length = ln n + 1 ∧ Dg ds ∧ val ds = val ((dig n).take k) * 2 ^ r ∧ ds.getD k 0 < 2 ^ r ∧ (∀ t, k < t → ds.getD t 0 = 0) ∧ Blk wr w.heap.size 123 (cells ds) ∧ Below w.heap.size w wr) (fun s _ => ln n - (intOf s).toNat)
 case atStart => exact ⟨0, List.replicate (ln n + 1) 0, Nat.zero_le _, rfl, by simp, dg_zeros _, by rw [val_zeros]; simp [val], by rw [getD_zeros]; exact Nat.pow_pos (by decide), fun t _ => getD_zeros _ t, heap_alloc_new w _, below_alloc (Below.refl _ _) _⟩
 case round =>
  obtain ⟨k, ds, hk, rfl, hdl, hdd, hval, hlo, hzz, hblk, hbel⟩ := hrel; have HV := Hd.mk hval; have HK := Hd.mk hblk; have HL := Hd.mk hdl; have HB := Hd.mk hbel; have HDD := Hd.mk hdd; have HZZ := Hd.mk hzz; have HLO := Hd.mk hlo; clear hval hblk hdl hbel hdd hzz hlo; by_cases hkl : k < ln n
  ·obtain ⟨a1, rfl, hcell1⟩ := (HX.out.to HB.out).at_ hkl; obtain ⟨x, hx⟩ : ∃ x, x = (dig n).getD k 0 := ⟨_, rfl⟩; have hx1 : x < 4294967296 := by rw [hx]; exact dg_get (dg_dig _) k
   rw [← hx] at hcell1; obtain ⟨o, ho⟩ : ∃ o, o = ds.getD k 0 := ⟨_, rfl⟩; have hck := HK.out.at_ (i := k) (by have := HL.out; omega); have hfz := HK.out.frozen k; rw [← ho] at hck; obtain ⟨t, ht⟩ : ∃ t, t = x * 2 ^ r := ⟨_, rfl⟩; obtain ⟨hs1, hs2⟩ := shl_word hr32 hx1; have hor := or_shift hr32 (by rw [ho]; exact HLO.out : o < 2 ^ r) hx1; rw [← ht] at hs1 hs2 hor; have hol : o < 4294967296 := by rw [ho]; exact dg_get HDD.out k
   obtain ⟨lo, hlo⟩ : ∃ lo, lo = t % 4294967296 := ⟨_, rfl⟩; obtain ⟨hi, hhi⟩ : ∃ hi, hi = t / 4294967296 := ⟨_, rfl⟩; rw [← hlo] at hor; rw [← hhi] at hs2
   have hsum : o + lo < 4294967296 := by
    have h1 : o ||| lo < 2 ^ 32 := Nat.or_lt_two_pow (by omega) (by omega); rw [hor] at h1; omega
   have hhil : hi < 4294967296 := by omega
   have e1 : IntKind.u64.wrap ((x : Int) * 2 ^ r) = (t : Int) := by
    have : ((x : Int) * 2 ^ r) = (t : Int) := by rw [ht]; simp
    rw [this, IntKind.wrap_u64]; omega
   have e2 : (t : Int) % 4294967296 = (lo : Int) := by omega
   have e3 : (t : Int) / 4294967296 = (hi : Int) := by omega
   obtain ⟨ol, hol2⟩ : ∃ ol, ol = o + lo := ⟨_, rfl⟩; have e4 : bits .or .u32 (o : Int) (lo : Int) = (ol : Int) := by rw [u32_or_nat _ _ (by omega) (by omega), hor, hol2]
   have hput := HK.out.put k ol; have hput2 := hput.put (k + 1) hi; have hck2 := HK.out.at_ (i := k + 1) (by have := HL.out; omega); rw [HZZ.out (k + 1) (by omega)] at hck2; have hfz2 := HK.out.frozen (k + 1); rw [← hol2] at hsum; have hnew := val_two_sets (ds := ds) (k := k) (o := o) (lo := lo) (hi := hi) (by have := HL.out; omega) ho.symm (HZZ.out (k + 1) (by omega)) HV.out; rw [← hol2] at hnew
   have hnew2 : val ((ds.set k ol).set (k + 1) hi) = val ((dig n).take (k + 1)) * 2 ^ r := by
    rw [hnew, val_take_next, ← hx, Nat.add_mul, Nat.mul_assoc, ← ht]; congr 2
    rw [hlo, hhi]; exact Nat.mod_add_div _ _
   have hg1 : ((ds.set k ol).set (k + 1) hi).getD (k + 1) 0 = hi := by
    have h1 := HL.out; rw [List.getD_eq_getElem?_getD, List.getElem?_set_self (by rw [List.length_set]; omega)]; rfl
   have HN := Hd.mk hnew2; have HP := Hd.mk hput2; have HG := Hd.mk hg1; have HS2 := Hd.mk hs2; clear hput hput2 hnew hnew2 hor hx ho ht hlo hhi hg1 hol2; go_wp2_with fail
   go_roundw
   case rel =>
    refine ⟨k + 1, (ds.set k ol).set (k + 1) hi, by omega, by go_num, by rw [List.length_set, List.length_set]; exact HL.out, dg_set (dg_set HDD.out _ hsum) _ hhil, HN.out, by rw [HG.out]; exact HS2.out, fun t ht => ?_, HP.out, below_set (below_set HB.out (Nat.le_refl _) _) (Nat.le_refl _) _⟩; rw [getD_set_ne (by omega), getD_set_ne (by omega)]; exact HZZ.out t (by omega)
   case measure => simp [intOf]; omega
  have hke : k = ln n := by omega
  subst hke
  have hv2 : val ds = n * 2 ^ r := by
   rw [HV.out, val_take_all (Nat.le_refl _)]
  have hc := norm_calls (some ⟨w.heap.size, 0, none⟩) (ln n + 1) ds _ HK.out.reads HDD.out (by have := HL.out; omega) (by omega); have hrn := HK.out.reads.of_take HDD.out; rw [HL.out, hv2] at hc; rw [hv2] at hrn
  have hfin : ln (n * 2 ^ r) ≤ ln n + 1 := by
   rw [← hv2]; have := val_lt HDD.out; rw [HL.out] at this; exact ln_le this
  have HC := Hd.mk hc; have HNN : Hd (NN wr (some ⟨w.heap.size, 0, none⟩) (ln n + 1) (n * 2 ^ r)) := ⟨⟨hrn, hfin, by omega⟩⟩; have HWO := Hd.mk (fun W (hW : Below wr.heap.size wr W) => words_own (some ⟨w.heap.size, 0, none⟩) (ln n + 1) (n * 2 ^ r) q W (HNN.out.to hW) (by omega) hql); rw [← HSS.out] at HWO; clear hv2 hc hrn HNN; go_wp2_with (first | (go_at_call 114; refine HC.out.mono ?_; rintro e w' ⟨rfl, rfl⟩) | (go_at_call 140; refine (HWO.out _ (Below.refl _ _)).mono ?_; rintro e w' ⟨v, rfl, ho, hb⟩; have HO := Hd.mk ho; have HB' := Hd.mk hb; clear ho hb))
  go_ret
  exact ⟨_, rfl, ownsRow_mono HO.out HB.out.size, below_then HB.out HB.out.size HB'.out⟩
set_option linter.unusedSimpArgs false
def isZ (z : Int) : SP := ⟨fun v w => ∃ A c, v = .agg #[.bool (decide (z < 0)), .slice A (ln z.natAbs) c] ∧ NN w A c z.natAbs, fun v w w' ⟨A, c, h, hn⟩ hb => ⟨A, c, h, hn.to hb⟩⟩
def isN (n : Nat) : SP := ⟨fun v w => ∃ A c, v = .slice A (ln n) c ∧ NN w A c n, fun v w w' ⟨A, c, h, hn⟩ hb => ⟨A, c, h, hn.to hb⟩⟩
def isZZ (q r : Int) : SP := ⟨fun v w => ∃ A c A' c', v = .tuple #[.agg #[.bool (decide (q < 0)), .slice A (ln q.natAbs) c], .agg #[.bool (decide (r < 0)), .slice A' (ln r.natAbs) c']] ∧ NN w A c q.natAbs ∧ NN w A' c' r.natAbs,
 fun v w w' ⟨A, c, A', c', h, h1, h2⟩ hb => ⟨A, c, A', c', h, h1.to hb, h2.to hb⟩⟩
section
variable {P : Program} {Q : Exit → Act → World → Prop} {o : Oper} {a : Act} {w : World} {d : Nat} {R : Value → World → Prop}
end
section
variable {w : World} {g : Nat} {x0 x1 : Value}
theorem load_api (h0 : w.cell? ⟨g, 0, none⟩ = some x0) (h1 : w.cell? ⟨g, 1, none⟩ = some x1) : (Instr.loadAt 25 (.pointer (some ⟨g, 0, none⟩))).run Tryz.prog w = .ok (.agg #[x0, x1]) w := by
 simp [go_sem, h0, h1]
theorem load_whole (h0 : w.cell? ⟨g, 0, none⟩ = some x0) (h1 : w.cell? ⟨g, 1, none⟩ = some x1) : (Instr.loadAt 100 (.pointer (some ⟨g, 0, none⟩))).run Tryz.prog w = .ok (.agg #[x0, x1]) w := by
 simp [go_sem, h0, h1]
theorem store_api (h0 : w.cell? ⟨g, 0, none⟩ = some x0) (h1 : w.cell? ⟨g, 1, none⟩ = some x1) (f0 : w.frozen? ⟨g, 0, none⟩ = false) (f1 : w.frozen? ⟨g, 1, none⟩ = false) (b : Bool) (A : Option Addr) (n c : Nat) :
  (Instr.storeAt 25 (.pointer (some ⟨g, 0, none⟩)) (.agg #[.bool b, .slice A n c])).run Tryz.prog w = .ok () ((w.setCell ⟨g, 0, none⟩ (.bool b)).setCell ⟨g, 1, none⟩ (.slice A n c)) := by
 simp [go_sem, h0, h1, f0, f1]
theorem alloc_api (w : World) : (Instr.alloc 25 true (.tuple #[])).run Tryz.prog w = .ok (.pointer (some ⟨w.heap.size, 0, none⟩)) (w.alloc (.cells [.bool false, .slice none 0 0].toArray 25)) := by
 simp [go_sem]
theorem alloc_whole (w : World) : (Instr.alloc 100 true (.tuple #[])).run Tryz.prog w = .ok (.pointer (some ⟨w.heap.size, 0, none⟩)) (w.alloc (.cells [.bool false, .slice none 0 0].toArray 100)) := by
 simp [go_sem]
end
section
variable {Q : Exit → Act → World → Prop} {id : Nat} {l : List Oper} {a0 : Act} {w0 : World}
end
section
variable {w X : World} {t t' : TypeId} {x0 x1 u v : Value} {g h n : Nat} {cs : List Value} {A : Option Addr} {c m : Nat}
theorem blk_put2 (hb : Blk X g t [x0, x1]) : Blk ((X.setCell ⟨g, 0, none⟩ u).setCell ⟨g, 1, none⟩ v) g t [u, v] := (hb.set_ 0 u).set_ 1 v
theorem blk_far2 (hb : Blk X g t cs) (hne : g ≠ h) : Blk ((X.setCell ⟨h, 0, none⟩ u).setCell ⟨h, 1, none⟩ v) g t cs := (hb.far (p := ⟨h, 0, none⟩) hne u).far (p := ⟨h, 1, none⟩) hne v
theorem nn_put2 {b : Bool} {a : Option Addr} {l k : Nat} (hn : NN X A c m) (hb : Blk X g t [.bool b, .slice a l k]) : NN ((X.setCell ⟨g, 0, none⟩ u).setCell ⟨g, 1, none⟩ v) A c m :=
 (hn.set_ hb.c0 (by intro t; simp) u).set_ (hb.set_ 0 u).c1 (by intro t; simp) v
theorem below_put2 (hb : Below n w X) (hg : n ≤ g) : Below n w ((X.setCell ⟨g, 0, none⟩ u).setCell ⟨g, 1, none⟩ v) := below_set (below_set hb hg u) hg v
end
theorem or_high (h l : Nat) (hl : l < 4294967296) (hh : h < 4294967296) : bits .or .u64 ((h : Int) * 4294967296) (l : Int) = ((h * 4294967296 + l : Nat) : Int) := by
 have e : ((h : Int) * 4294967296) = ((h * 4294967296 : Nat) : Int) := by omega
 rw [e, u64_or_nat _ _ (by omega) (by omega)]; have := Nat.two_pow_add_eq_or_of_lt (i := 32) hl h; congr 1
 rw [Nat.mul_comm h]; exact this.symm
theorem val_drop_cons {xs : List Nat} {k : Nat} (h : k < xs.length) : val (xs.drop k) = xs.getD k 0 + B * val (xs.drop (k + 1)) := by
 rw [List.drop_eq_getElem_cons h, val]; simp [h]
theorem val_drop_set {xs : List Nat} {k : Nat} (h : k < xs.length) (q : Nat) : val ((xs.set k q).drop k) = q + B * val (xs.drop (k + 1)) := by
 have e : (xs.set k q).drop k = q :: xs.drop (k + 1) := by
  rw [List.drop_eq_getElem_cons (by rw [List.length_set]; exact h), List.drop_set_of_lt (by omega)]; simp
 rw [e, val]
theorem div_word {r x b : Nat} (hr : r < b) (hb : b < 4294967296) (hx : x < 4294967296) : (r * 4294967296 + x) / b < 4294967296 ∧ (r * 4294967296 + x) % b < b := by
 refine ⟨?_, Nat.mod_lt _ (by omega)⟩; rw [Nat.div_lt_iff_lt_mul (by omega)]; have : (r + 1) * 4294967296 ≤ b * 4294967296 := Nat.mul_le_mul_right _ hr; omega
def RetNN (m n : Nat) (w : World) (e : Ending) (w' : World) : Prop := ∃ A c A' c', e = .returned (.tuple #[.slice A (ln m) c, .slice A' (ln n) c']) ∧ NN w' A c m ∧ NN w' A' c' n ∧ Below w.heap.size w w'
set_option maxHeartbeats 1000000 in
set_option maxRecDepth 100000 in
theorem short_calls (A1 : Option Addr) (c1 n b : Nat) (w : World) (h1 : NN w A1 c1 n) (l1 : ln n ≤ 1073741824) (hb0 : 0 < b) (hb : b < 4294967296) :
  Calls Tryz.prog 118 #[.slice A1 (ln n) c1, .int .u32 (b : Int)] w (RetNN (n / b) (n % b) w) := by
 have HX := Hd.mk h1; clear h1; have hmk := fun W => make_words 98 Tryz.underlying98 (ln n : Int) (ln n) (by omega) (by omega) W
 have hbz : ((b : Int) == 0) = false := by rw [beq_eq_false_iff_ne]; omega
 go_enter Tryz.func118, Tryz.ntmps118
 go_wp2
 clear hmk; go_loopw [7, 8] (fun s7 s8 wr => ∃ (k r : Nat) (ds : List Nat), k ≤ ln n ∧ s8 = .int .i64 ((k : Int) - 1) ∧ s7 = .int .u64 (r : Int) ∧ r < b ∧ ds.length = ln n ∧ Dg ds ∧ val ((dig n).drop k) = b * val (ds.drop k) + r ∧ Blk wr w.heap.size 123 (cells ds) ∧ Below w.heap.size w wr) (fun _ s _ => (intOf s + 1).toNat)
 case atStart => exact ⟨ln n, 0, List.replicate (ln n) 0, Nat.le_refl _, rfl, rfl, hb0, by simp, dg_zeros _, by rw [List.drop_eq_nil_of_le (show (dig n).length ≤ ln n from Nat.le_refl _), List.drop_eq_nil_of_le (by simp)]; simp [val], heap_alloc_new w _, below_alloc (Below.refl _ _) _⟩
 case round =>
  obtain ⟨k, r, ds, hk, rfl, rfl, hrb, hdl, hdd, hval, hblk, hbel⟩ := hrel; have HV := Hd.mk hval; have HK := Hd.mk hblk; have HL := Hd.mk hdl; have HB := Hd.mk hbel; have HDD := Hd.mk hdd; clear hval hblk hdl hbel hdd; rcases k with _ | k
  ·have hv : n = b * val ds + r := by have := HV.out; rwa [List.drop_zero, List.drop_zero, val_dig] at this
   have hq : val ds = n / b := by rw [hv, Nat.mul_add_div hb0, Nat.div_eq_of_lt hrb]; omega
   have hr : r = n % b := by rw [hv, Nat.mul_add_mod, Nat.mod_eq_of_lt hrb]
   have hc := norm_calls (some ⟨w.heap.size, 0, none⟩) (ln n) ds _ HK.out.reads HDD.out (by have := HL.out; omega) (by omega); have hrn := HK.out.reads.of_take HDD.out; rw [HL.out, hq] at hc; rw [hq] at hrn; have HC := Hd.mk hc; have HN1 : Hd (NN wr (some ⟨w.heap.size, 0, none⟩) (ln n) (n / b)) := ⟨⟨hrn, ln_mono (Nat.div_le_self _ _), by omega⟩⟩; have HS := Hd.mk (fun W => small_calls r (by unfold B; omega) W); rw [hr] at HS; have HR := Hd.mk hr; clear hv hq hc hrn; rw [hr] at hrb ⊢; clear hr; go_wp2_with (first | (go_at_call 114; refine HC.out.mono ?_; rintro e w' ⟨rfl, rfl⟩) | (go_at_call 92; refine (HS.out _).mono ?_; rintro e w' ⟨A3, c3, rfl, hn3, hb3⟩; have HN3 := Hd.mk hn3; have HB3 := Hd.mk hb3; clear hn3 hb3))
   go_ret2
   exact ⟨_, _, A3, c3, rfl, HN1.out.to HB3.out, HN3.out, below_then HB.out HB.out.size HB3.out⟩
  obtain ⟨a1, rfl, hcell1⟩ := (HX.out.to HB.out).at_ (k := k) (by omega); obtain ⟨x, hx⟩ : ∃ x, x = (dig n).getD k 0 := ⟨_, rfl⟩; have hx1 : x < 4294967296 := by rw [hx]; exact dg_get (dg_dig _) k
  rw [← hx] at hcell1; have hck := HK.out.at_ (i := k) (by have := HL.out; omega); have hfz := HK.out.frozen k; obtain ⟨t, ht⟩ : ∃ t, t = r * 4294967296 + x := ⟨_, rfl⟩; obtain ⟨hq1, hr1⟩ := div_word hrb hb hx1; rw [← ht] at hq1 hr1; have hd1 := val_drop_cons (xs := dig n) (k := k) (by unfold ln at hk; omega); obtain ⟨q, hq⟩ : ∃ q, q = t / b := ⟨_, rfl⟩; obtain ⟨r2, hr2⟩ : ∃ r2, r2 = t % b := ⟨_, rfl⟩; rw [← hq] at hq1; rw [← hr2] at hr1; have hd2 := val_drop_set (xs := ds) (k := k) (by have := HL.out; omega) q
  have hnew : val ((dig n).drop k) = b * val ((ds.set k q).drop k) + r2 := by
   rw [hd1, hd2, HV.out, ← hx]; have h1 : b * q + r2 = r * 4294967296 + x := by rw [hq, hr2, ← ht]; exact Nat.div_add_mod t b
   rw [Nat.mul_add, Nat.mul_add, Nat.mul_left_comm b B]; show x + (B * (b * val (List.drop (k + 1) ds)) + 4294967296 * r) = _; omega
  have hput := HK.out.put k q; have e1 : bits .or .u64 ((r : Int) * 4294967296) (x : Int) = (t : Int) := by rw [or_high r x hx1 (by omega), ht]
  have e2 : (t : Int) / (b : Int) = (q : Int) := by rw [hq]; exact (Int.natCast_ediv _ _).symm
  have e3 : (t : Int) % (b : Int) = (r2 : Int) := by rw [hr2]; exact (Int.natCast_emod _ _).symm
  have e4 : (q : Int) % 4294967296 = (q : Int) := by omega
  have hr64 : r * 4294967296 ≤ 18446744073709551615 := by omega
  have e5 : ((k + 1 : Nat) : Int) - 1 = (k : Int) := by omega
  rw [e5]; have HN := Hd.mk hnew; have HP := Hd.mk hput; have htl : t ≤ 18446744073709551615 := by omega
  clear hx ht hq hr2 hnew hput hd1 hd2 e5; go_wp2_with fail
  go_roundw
  case rel => exact ⟨k, r2, ds.set k q, by omega, rfl, by rw [e3], hr1, by rw [List.length_set]; exact HL.out, dg_set HDD.out _ hq1, HN.out, HP.out, below_set HB.out (Nat.le_refl _) _⟩
  case measure => simp [intOf]
end Go.Proofs.YtddbmckbankmeaaGreat.Ex
set_option linter.unusedVariables false
namespace Go.Proofs.YtddbmckbankmeaaGreat.Ex
theorem top_two {xs : List Nat} {m : Nat} (hl : xs.length = m + 2) (hd : Dg xs) : val xs = (xs.getD (m + 1) 0 * B + xs.getD m 0) * B ^ m + val (xs.take m) ∧ val (xs.take m) < B ^ m := by
 have h1 := val_take_next xs m; have h2 := val_take_next xs (m + 1); rw [List.take_of_length_le (show xs.length ≤ m + 1 + 1 by omega), h1] at h2; have h3 := val_lt (dg_take hd m); rw [List.length_take, Nat.min_eq_left (by omega)] at h3; refine ⟨?_, h3⟩; rw [h2, Nat.add_mul, Nat.pow_succ, Nat.mul_assoc, Nat.mul_comm (B ^ m) (xs.getD m 0), Nat.mul_assoc, Nat.mul_left_comm (B ^ m) B, Nat.mul_left_comm _ B, Nat.mul_comm (B ^ m)]; omega
theorem top_three {xs : List Nat} {m : Nat} (hl : xs.length = m + 3) (hd : Dg xs) : val xs = ((xs.getD (m + 2) 0 * B + xs.getD (m + 1) 0) * B + xs.getD m 0) * B ^ m + val (xs.take m) ∧ val (xs.take m) < B ^ m := by
 obtain ⟨h1, _⟩ := top_two (xs := xs) (m := m + 1) hl hd; have h2 := val_take_next xs m; have h3 := val_lt (dg_take hd m); rw [List.length_take, Nat.min_eq_left (by omega)] at h3; refine ⟨?_, h3⟩; rw [h1, h2]; generalize xs.getD (m + 1 + 1) 0 * B + xs.getD (m + 1) 0 = X; rw [Nat.add_mul, Nat.pow_succ, Nat.mul_comm (B ^ m) B, ← Nat.mul_assoc, Nat.mul_comm (B ^ m) (xs.getD m 0)]; omega
section
variable {W v v1 v2 u2 top D vl wl g rest : Nat}
theorem kn_init (hv : v = (v1 * B + v2) * D + vl) (hW : W = (top * B + u2) * D + wl) (hwl : wl < D) (hu2 : u2 < B) (hv1 : 0 < v1) (hWv : W < v * B) : W / v ≤ min (top / v1) 4294967295 := by
 have hv0 : 0 < v := by
  rcases Nat.eq_zero_or_pos v with h | h
  ·rw [h] at hWv; omega
  exact h
 have hD : 0 < D := by omega
 apply Nat.le_min.2; constructor
 ·rw [Nat.le_div_iff_mul_le hv1]; have h1 : W / v * v ≤ W := Nat.div_mul_le_self _ _; have h2 : W / v * ((v1 * B) * D) ≤ W / v * v := Nat.mul_le_mul_left _ (by rw [hv, Nat.add_mul]; omega)
  have h3 : W < (top + 1) * B * D := by
   have : (top * B + u2) * D + D ≤ ((top + 1) * B) * D := by
    rw [← Nat.succ_mul]; apply Nat.mul_le_mul_right; rw [Nat.add_mul]; omega
   omega
  have h4 : (W / v * v1) * (B * D) < (top + 1) * (B * D) := by
   rw [← Nat.mul_assoc (top + 1), Nat.mul_assoc (W / v)]; rw [Nat.mul_assoc v1] at h2; omega
  have := Nat.lt_of_mul_lt_mul_right h4; omega
 have : W / v < B := by rw [Nat.div_lt_iff_lt_mul hv0, Nat.mul_comm]; exact hWv
 unfold B at this; omega
theorem kn_step (hv : v = (v1 * B + v2) * D + vl) (hW : W = (top * B + u2) * D + wl) (hwl : wl < D) (hr : g * v1 + rest = top) (hq : W / v ≤ g) (ht : rest * B + u2 < g * v2) : 1 ≤ g ∧ W / v ≤ g - 1 := by
 have hg : 1 ≤ g := by
  rcases Nat.eq_zero_or_pos g with h | h
  ·rw [h] at ht; omega
  exact h
 refine ⟨hg, ?_⟩; rcases Nat.lt_or_ge (W / v) g with h | h
 ·omega
 exfalso; have e : W / v = g := by omega
 have h1 : g * v ≤ W := by rw [← e]; exact Nat.div_mul_le_self _ _
 have h2 : g * ((v1 * B + v2) * D) ≤ g * v := Nat.mul_le_mul_left _ (by rw [hv]; omega)
 have h3 : (top * B + u2 + 1) * D ≤ g * ((v1 * B + v2) * D) := by
  rw [← Nat.mul_assoc]; apply Nat.mul_le_mul_right; rw [Nat.mul_add, ← Nat.mul_assoc, ← hr, Nat.add_mul]; omega
 rw [Nat.add_mul _ 1] at h3; omega
theorem kn_exit (hr : g * v1 + rest = top) (hv2 : v2 < B) (hg : g < B) (ht : B ≤ rest ∨ g * v2 ≤ rest * B + u2) : g * (v1 * B + v2) ≤ top * B + u2 := by
 rw [Nat.mul_add, ← Nat.mul_assoc, ← hr, Nat.add_mul]; rcases ht with h | h
 ·have h1 : g * v2 ≤ B * B := Nat.mul_le_mul (by omega) (by omega); have h2 : B * B ≤ rest * B := Nat.mul_le_mul_right _ h; omega
 omega
theorem kn_fix (hv : v = (v1 * B + v2) * D + vl) (hW : W = (top * B + u2) * D + wl) (hvl : vl < D) (hv1 : 0 < v1) (hg : g < B) (hq : W / v ≤ g) (hx : g * (v1 * B + v2) ≤ top * B + u2) :
  (W < g * v → 1 ≤ g ∧ (g - 1) * v ≤ W ∧ W < (g - 1) * v + v) ∧ (¬ W < g * v → W < g * v + v) := by
 have hD : 0 < D := by omega
 have hB : B ≤ v1 * B := Nat.le_mul_of_pos_left _ hv1
 have hv0 : 0 < v := by
  have : (v1 * B + v2) * D ≥ 1 * D := Nat.mul_le_mul_right _ (by have := B_pos; omega); omega
 constructor
 ·intro hlt
  have hg1 : 1 ≤ g := by
   rcases Nat.eq_zero_or_pos g with h | h
   ·rw [h] at hlt; omega
   exact h
  refine ⟨hg1, ?_, ?_⟩
  ·have h1 : (g - 1) * v ≤ (g - 1) * ((v1 * B + v2 + 1) * D) := Nat.mul_le_mul_left _ (by rw [hv, Nat.add_mul _ 1]; omega)
   have h2 : (g - 1) * ((v1 * B + v2 + 1) * D) ≤ (top * B + u2) * D := by
    rw [← Nat.mul_assoc]; apply Nat.mul_le_mul_right
    have e : (g - 1) * (v1 * B + v2) + (v1 * B + v2) = g * (v1 * B + v2) := by
     rw [← Nat.succ_mul]; congr 1
     omega
    rw [Nat.mul_add _ _ 1]; omega
   omega
  have e : (g - 1) * v + v = g * v := by
   rw [← Nat.succ_mul]; congr 1
   omega
  omega
 intro hge
 have h1 : W < (W / v + 1) * v := by
  have := Nat.lt_div_mul_add (a := W) hv0; rw [Nat.add_mul, Nat.one_mul]; exact this
 have h2 : (W / v + 1) * v ≤ (g + 1) * v := Nat.mul_le_mul_right _ (by omega); rw [Nat.add_mul g, Nat.one_mul] at h2; omega
end
def Long (N v k : Nat) (us qs : List Nat) : Prop := N = v * (B ^ k * val (qs.drop k)) + val us ∧ val us < v * B ^ k
theorem long_start {N v k : Nat} {us qs : List Nat} (h : val us = N) (hN : N < v * B ^ k) (hq : qs.length ≤ k) : Long N v k us qs := by
 subst h; refine ⟨?_, hN⟩; rw [List.drop_eq_nil_of_le hq, val, Nat.mul_zero, Nat.mul_zero, Nat.zero_add]
theorem long_high {us : List Nat} {v n j L : Nat} (hl : us.length = L) (hd : Dg us) (hn : v < B ^ n) (h : val us < v * B ^ (j + 1)) (hj : j + n + 1 ≤ L) :
  val us = val (us.take j) + B ^ j * val ((us.drop j).take (n + 1)) ∧ val ((us.drop j).drop (n + 1)) = 0 ∧ val ((us.drop j).take (n + 1)) < v * B := by
 have e1 := val_split (xs := us) (k := j) (by omega); have e2 := val_split (xs := us.drop j) (k := n + 1) (by rw [List.length_drop]; omega)
 have hz : val ((us.drop j).drop (n + 1)) = 0 := by
  rcases Nat.eq_zero_or_pos (val ((us.drop j).drop (n + 1))) with h0 | h0
  ·exact h0
  exfalso; have h1 : B ^ (n + 1) * 1 ≤ B ^ (n + 1) * val ((us.drop j).drop (n + 1)) := Nat.mul_le_mul_left _ h0; have h2 : B ^ j * (B ^ (n + 1) * 1) ≤ B ^ j * val (us.drop j) := Nat.mul_le_mul_left _ (by omega); have h3 : v * B ^ (j + 1) < B ^ n * B ^ (j + 1) := Nat.mul_lt_mul_of_pos_right hn (Nat.pow_pos B_pos); rw [Nat.mul_one, ← Nat.pow_add] at h2; rw [← Nat.pow_add, show n + (j + 1) = j + (n + 1) from by omega] at h3; omega
 rw [hz, Nat.mul_zero, Nat.add_zero] at e2; rw [e2] at e1; refine ⟨e1, hz, ?_⟩
 have h4 : B ^ j * val ((us.drop j).take (n + 1)) < B ^ j * (v * B) := by
  rw [Nat.pow_succ] at h; rw [Nat.mul_left_comm]; omega
 exact Nat.lt_of_mul_lt_mul_left h4
theorem long_step {N v j n g r L : Nat} {us qs ds : List Nat} (hl : us.length = L) (hd : Dg us) (hn : v < B ^ n) (hj : j + n + 1 ≤ L) (hlq : j < qs.length) (h : Long N v (j + 1) us qs) (hW : val ((us.drop j).take (n + 1)) = g * v + r) (hr : r < v) (hds : val ds = r) (hdl : ds.length = n + 1) :
  Long N v j (us.take j ++ (ds ++ (us.drop j).drop (n + 1))) (qs.set j g) := by
 obtain ⟨h1, h2⟩ := h; obtain ⟨e1, e2, e3⟩ := long_high hl hd hn h2 hj; have hp := val_lt (dg_take hd j); rw [List.length_take, Nat.min_eq_left (by omega)] at hp
 have hv2 : val (us.take j ++ (ds ++ (us.drop j).drop (n + 1))) = val (us.take j) + B ^ j * r := by
  rw [val_append, val_append, e2, hds, List.length_take, Nat.min_eq_left (by omega)]; simp
 refine ⟨?_, ?_⟩
 ·rw [h1, e1, hv2, hW, val_drop_set hlq, Nat.mul_add (B ^ j) g, Nat.mul_add v, Nat.mul_add (B ^ j), Nat.pow_succ, Nat.mul_assoc (B ^ j), Nat.mul_left_comm v (B ^ j) g, Nat.mul_comm v g]; omega
 rw [hv2, Nat.mul_comm v]; have : B ^ j * (r + 1) ≤ B ^ j * v := Nat.mul_le_mul_left _ hr; rw [Nat.mul_add] at this; omega
end Go.Proofs.YtddbmckbankmeaaGreat.Ex
