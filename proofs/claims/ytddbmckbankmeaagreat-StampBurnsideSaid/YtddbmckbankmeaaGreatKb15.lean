/- Part 15 of the texts behind this claim. -/
import Derived.BigCall
import Derived.OrdersHeld
import Derived.Deep.CutBlock
import Derived.Test.YtddbmckbankmeaaGreatKb1
import Derived.Test.YtddbmckbankmeaaGreatKb10
import Derived.Test.YtddbmckbankmeaaGreatKb13
import Derived.Test.YtddbmckbankmeaaGreatKb14
set_option linter.unusedVariables false
namespace Go.Proofs.YtddbmckbankmeaaGreat.Ex
open Go.RowKit
theorem run_fld_whole (b s : Value) (W : World) : (Instr.field 100 (.agg #[b, s]) 1).run Tryz.prog W = .ok s W := by
 simp [Instr.field, run_underlying Tryz.underlying100, asAgg, go_sem]
theorem run_fld_Z (b s : Value) (W : World) : (Instr.field 50 (.agg #[b, s]) 1).run Tryz.prog W = .ok s W := by
 simp [Instr.field, run_underlying Tryz.underlying50, asAgg, go_sem]
attribute [local go_sem] run_fld_whole run_fld_Z
theorem ln_two {n : Int} (h1 : -9223372036854775808 ≤ n) (h2 : n ≤ 9223372036854775807) : ln n.natAbs ≤ 2 := by
 apply ln_le; have h3 : B ^ 2 = 18446744073709551616 := by decide
 rw [h3]; omega
theorem wrap_neg {n : Int} (h1 : -9223372036854775808 ≤ n) (h : n < 0) : IntKind.u64.wrap (-IntKind.u64.wrap n) = ((n.natAbs : Nat) : Int) := by
 rw [IntKind.wrap_u64, IntKind.wrap_u64]; omega
set_option maxRecDepth 100000 in
theorem Whole_calls (n : Int) (w : World) (h1 : -9223372036854775808 ≤ n) (h2 : n ≤ 9223372036854775807) :
  Calls Tryz.prog 18 #[.int .i64 n] w (RetZ n w) := by
 by_cases hn : n < 0
 ·have HC : Hd (∀ W, Calls Tryz.prog 50 #[.int .u64 (-(n + 1) + 1)] W (RetN n.natAbs W)) := ⟨fun W => by rw [show -(n + 1) + 1 = ((n.natAbs : Nat) : Int) from by omega]; exact natural_calls _ (ln_two h1 h2) W⟩; have HD := Hd.mk (decide_eq_true hn); go_enter Tryz.func18, Tryz.ntmps18
  go_wp2_with fail
  refine (HC.out _).mono ?_; rintro e w1 ⟨A3, c3, rfl, hn1, hb1⟩; obtain ⟨hc1, hf1⟩ := bcell hb1; have hz1 : w.heap.size < w1.heap.size := by have := hb1.size; simp at this; omega
  have HN := Hd.mk hn1; have HB : Hd (Below w.heap.size w w1) := ⟨bel_then (by repeat (first | exact HB.out | exact Below.refl _ _ | refine below_alloc ?_ _ | refine below_drewN ?_ _ | refine below_drew ?_ | refine below_set ?_ (by first | exact Nat.le_refl _ | omega | (simp; done) | (simp; omega)) _)) hb1⟩; clear hn1 hb1; go_wp2_with fail
  have g0 : w1.cell? ⟨w.heap.size, 0, none⟩ = some (.bool false) := (hc1 _ _ (by simp)).trans (blk_new (W := w) rfl [.bool false, .slice none 0 0] 50).c0; have g1 : w1.cell? ⟨w.heap.size, 1, none⟩ = some (.slice none 0 0) := (hc1 _ _ (by simp)).trans (blk_new (W := w) rfl [.bool false, .slice none 0 0] 50).c1; obtain ⟨k0, k1, k2⟩ := two_set g0 g1 (.bool true) (.slice A3 (ln n.natAbs) c3); refine bodyPost_ret (v := .agg #[.bool true, .slice A3 (ln n.natAbs) c3]) (by simp [results, Tryz.results18, go_sem, k0, k1]) rfl ?_; exact ⟨A3, c3, by rw [HD.out], (HN.out.set_ g0 (by intro t; simp) _).set_ k2 (by intro t; simp) _, by repeat (first | exact HB.out | exact Below.refl _ _ | refine below_alloc ?_ _ | refine below_drewN ?_ _ | refine below_drew ?_ | refine below_set ?_ (by first | exact Nat.le_refl _ | omega | (simp; done) | (simp; omega)) _)⟩
 have HC : Hd (∀ W, Calls Tryz.prog 50 #[.int .u64 n] W (RetN n.natAbs W)) := ⟨fun W => by have := natural_calls n.natAbs (ln_two h1 h2) W; rwa [show ((n.natAbs : Nat) : Int) = n from by omega] at this⟩; have HD := Hd.mk (decide_eq_false hn); go_enter Tryz.func18, Tryz.ntmps18
 go_wp2_with fail
 refine (HC.out _).mono ?_; rintro e w1 ⟨A3, c3, rfl, hn1, hb1⟩; obtain ⟨hc1, hf1⟩ := bcell hb1; have hz1 : w.heap.size < w1.heap.size := by have := hb1.size; simp at this; omega
 have HN := Hd.mk hn1; have HB : Hd (Below w.heap.size w w1) := ⟨bel_then (by repeat (first | exact HB.out | exact Below.refl _ _ | refine below_alloc ?_ _ | refine below_drewN ?_ _ | refine below_drew ?_ | refine below_set ?_ (by first | exact Nat.le_refl _ | omega | (simp; done) | (simp; omega)) _)) hb1⟩; clear hn1 hb1; go_wp2_with fail
 have g0 : w1.cell? ⟨w.heap.size, 0, none⟩ = some (.bool false) := (hc1 _ _ (by simp)).trans (blk_new (W := w) rfl [.bool false, .slice none 0 0] 50).c0; have g1 : w1.cell? ⟨w.heap.size, 1, none⟩ = some (.slice none 0 0) := (hc1 _ _ (by simp)).trans (blk_new (W := w) rfl [.bool false, .slice none 0 0] 50).c1; obtain ⟨k0, k1, k2⟩ := two_set g0 g1 (.bool false) (.slice A3 (ln n.natAbs) c3); refine bodyPost_ret (v := .agg #[.bool false, .slice A3 (ln n.natAbs) c3]) (by simp [results, Tryz.results18, go_sem, k0, k1]) rfl ?_; exact ⟨A3, c3, by rw [HD.out], (HN.out.set_ g0 (by intro t; simp) _).set_ k2 (by intro t; simp) _, by repeat (first | exact HB.out | exact Below.refl _ _ | refine below_alloc ?_ _ | refine below_drewN ?_ _ | refine below_drew ?_ | refine below_set ?_ (by first | exact Nat.le_refl _ | omega | (simp; done) | (simp; omega)) _)⟩
set_option maxRecDepth 100000 in
theorem ofInt_calls (n : Int) (w : World) (h1 : -9223372036854775808 ≤ n) (h2 : n ≤ 9223372036854775807) :
  Calls Tryz.prog 61 #[.int .i64 n] w (RetZ n w) := by
 have hB : n.natAbs / B < B := by unfold B; omega
 by_cases hn : n < 0
 ·have HC : Hd (∀ W, Calls Tryz.prog 92 #[.int .u64 (IntKind.u64.wrap (-IntKind.u64.wrap n))] W (RetN n.natAbs W)) := ⟨fun W => by rw [wrap_neg h1 hn]; exact small_calls _ hB W⟩; have HD := Hd.mk (decide_eq_true hn); clear hB; go_enter Tryz.func61, Tryz.ntmps61
  go_wp2_with fail
  refine (HC.out _).mono ?_; rintro e w1 ⟨A3, c3, rfl, hn1, hb1⟩; obtain ⟨hc1, hf1⟩ := bcell hb1; have hz1 : w.heap.size < w1.heap.size := by have := hb1.size; simp at this; omega
  have HN := Hd.mk hn1; have HB : Hd (Below w.heap.size w w1) := ⟨bel_then (by repeat (first | exact HB.out | exact Below.refl _ _ | refine below_alloc ?_ _ | refine below_drewN ?_ _ | refine below_drew ?_ | refine below_set ?_ (by first | exact Nat.le_refl _ | omega | (simp; done) | (simp; omega)) _)) hb1⟩; clear hn1 hb1; go_wp2_with fail
  have g0 : w1.cell? ⟨w.heap.size, 0, none⟩ = some (.bool false) := (hc1 _ _ (by simp)).trans (blk_new (W := w) rfl [.bool false, .slice none 0 0] 100).c0; have g1 : w1.cell? ⟨w.heap.size, 1, none⟩ = some (.slice none 0 0) := (hc1 _ _ (by simp)).trans (blk_new (W := w) rfl [.bool false, .slice none 0 0] 100).c1; obtain ⟨k0, k1, k2⟩ := two_set g0 g1 (.bool true) (.slice A3 (ln n.natAbs) c3); refine bodyPost_ret (v := .agg #[.bool true, .slice A3 (ln n.natAbs) c3]) (by simp [results, Tryz.results61, go_sem, k0, k1]) rfl ?_; exact ⟨A3, c3, by rw [HD.out], (HN.out.set_ g0 (by intro t; simp) _).set_ k2 (by intro t; simp) _, by repeat (first | exact HB.out | exact Below.refl _ _ | refine below_alloc ?_ _ | refine below_drewN ?_ _ | refine below_drew ?_ | refine below_set ?_ (by first | exact Nat.le_refl _ | omega | (simp; done) | (simp; omega)) _)⟩
 have HC : Hd (∀ W, Calls Tryz.prog 92 #[.int .u64 n] W (RetN n.natAbs W)) := ⟨fun W => by have := small_calls n.natAbs hB W; rwa [show ((n.natAbs : Nat) : Int) = n from by omega] at this⟩; have HD := Hd.mk (decide_eq_false hn); clear hB; go_enter Tryz.func61, Tryz.ntmps61
 go_wp2_with fail
 refine (HC.out _).mono ?_; rintro e w1 ⟨A3, c3, rfl, hn1, hb1⟩; obtain ⟨hc1, hf1⟩ := bcell hb1; have hz1 : w.heap.size < w1.heap.size := by have := hb1.size; simp at this; omega
 have HN := Hd.mk hn1; have HB : Hd (Below w.heap.size w w1) := ⟨bel_then (by repeat (first | exact HB.out | exact Below.refl _ _ | refine below_alloc ?_ _ | refine below_drewN ?_ _ | refine below_drew ?_ | refine below_set ?_ (by first | exact Nat.le_refl _ | omega | (simp; done) | (simp; omega)) _)) hb1⟩; clear hn1 hb1; go_wp2_with fail
 have g0 : w1.cell? ⟨w.heap.size, 0, none⟩ = some (.bool false) := (hc1 _ _ (by simp)).trans (blk_new (W := w) rfl [.bool false, .slice none 0 0] 100).c0; have g1 : w1.cell? ⟨w.heap.size, 1, none⟩ = some (.slice none 0 0) := (hc1 _ _ (by simp)).trans (blk_new (W := w) rfl [.bool false, .slice none 0 0] 100).c1; obtain ⟨k0, k1, k2⟩ := two_set g0 g1 (.bool false) (.slice A3 (ln n.natAbs) c3); refine bodyPost_ret (v := .agg #[.bool false, .slice A3 (ln n.natAbs) c3]) (by simp [results, Tryz.results61, go_sem, k0, k1]) rfl ?_; exact ⟨A3, c3, by rw [HD.out], (HN.out.set_ g0 (by intro t; simp) _).set_ k2 (by intro t; simp) _, by repeat (first | exact HB.out | exact Below.refl _ _ | refine below_alloc ?_ _ | refine below_drewN ?_ _ | refine below_drew ?_ | refine below_set ?_ (by first | exact Nat.le_refl _ | omega | (simp; done) | (simp; omega)) _)⟩
set_option maxRecDepth 100000 in
theorem FromInt_calls (n : Int) (w : World) (h1 : -9223372036854775808 ≤ n) (h2 : n ≤ 9223372036854775807) :
  Calls Tryz.prog 25 #[.int .i64 n] w (RetZ n w) := by
 have hl := ln_two h1 h2; have HO := Hd.mk (fun W => ofInt_calls n W h1 h2); have HV := Hd.mk (fun A c W h => value_calls n A c W h (by omega)); obtain ⟨b, hb⟩ : ∃ b, b = decide (n < 0) := ⟨_, rfl⟩; rw [← hb] at HV; have HBB := Hd.mk hb; clear hb; go_enter Tryz.func25, Tryz.ntmps25
 go_wp2_with fail
 refine (HO.out _).mono ?_; rintro e w0 ⟨A2, c2, rfl, hn0, hb0⟩; rw [← HBB.out]; have HN0 := Hd.mk hn0; have HB0 := Hd.mk hb0; clear hn0 hb0; go_wp2_with fail
 refine (HV.out _ _ _ HN0.out).mono ?_; rintro e w1 ⟨A3, c3, rfl, hn1, hb1⟩; rw [← HBB.out]; have HB1 := Hd.mk (bel_then HB0.out hb1); have HN := Hd.mk hn1; obtain ⟨hc1, hf1⟩ := bcell HB1.out; have hz1 : w.heap.size < w1.heap.size := by have := HB1.out.size; simp at this; omega
 have HB : Hd (Below w.heap.size w w1) := ⟨bel_then (by repeat (first | exact HB.out | exact Below.refl _ _ | refine below_alloc ?_ _ | refine below_drewN ?_ _ | refine below_drew ?_ | refine below_set ?_ (by first | exact Nat.le_refl _ | omega | (simp; done) | (simp; omega)) _)) HB1.out⟩; clear hn1 hb1; go_wp2_with fail
 have g0 : w1.cell? ⟨w.heap.size, 0, none⟩ = some (.bool false) := (hc1 _ _ (by simp)).trans (blk_new (W := w) rfl [.bool false, .slice none 0 0] 25).c0; have g1 : w1.cell? ⟨w.heap.size, 1, none⟩ = some (.slice none 0 0) := (hc1 _ _ (by simp)).trans (blk_new (W := w) rfl [.bool false, .slice none 0 0] 25).c1; obtain ⟨k0, k1, k2⟩ := two_set g0 g1 (.bool b) (.slice A3 (ln n.natAbs) c3); refine bodyPost_ret (v := .agg #[.bool b, .slice A3 (ln n.natAbs) c3]) (by simp [results, Tryz.results25, go_sem, k0, k1]) rfl ?_; exact ⟨A3, c3, by rw [HBB.out], (HN.out.set_ g0 (by intro t; simp) _).set_ k2 (by intro t; simp) _, by repeat (first | exact HB.out | exact Below.refl _ _ | refine below_alloc ?_ _ | refine below_drewN ?_ _ | refine below_drew ?_ | refine below_set ?_ (by first | exact Nat.le_refl _ | omega | (simp; done) | (simp; omega)) _)⟩
end Go.Proofs.YtddbmckbankmeaaGreat.Ex
set_option linter.unusedVariables false
namespace Go.Proofs.YtddbmckbankmeaaGreat.Ex
open Go.RowKit
def RetO (n : Nat) (w : World) (e : Ending) (w' : World) : Prop := ∃ v, e = .returned v ∧ w'.ownsRow w.heap.size 123 1 v (ln n) (cells (dig n)) ∧ Below w.heap.size w w'
theorem ownsRow_mono {w : World} {b b' : Nat} {e : TypeId} {s : Nat} {v : Value} {n : Nat} {xs : List Value} (h : w.ownsRow b e s v n xs) (hb : b' ≤ b) : w.ownsRow b' e s v n xs := by
 refine ⟨h.1, ?_⟩; rcases h.2 with h0 | ⟨g, cap, cur, h1, h2, h3⟩
 ·exact .inl h0
 exact .inr ⟨g, cap, cur, h1, Nat.le_trans hb h2, h3⟩
set_option maxRecDepth 100000 in
theorem words_own (A1 : Option Addr) (c1 n : Nat) (k : Nat) (w : World) (h1 : NN w A1 c1 n) (l1 : ln n ≤ 1073741824) (l2 : k ≤ 1073741824) :
  Calls Tryz.prog 140 #[.slice A1 (ln n) c1, .int .i64 (k : Int)] w (RetO (n * B ^ k) w) := by
 have HX := Hd.mk h1; by_cases h0 : n = 0
 ·subst h0; clear h1; rw [ln_zero, Nat.zero_mul]; go_enter Tryz.func140, Tryz.ntmps140
  go_wp2_with (first | (go_at_call 66; refine (zero_calls _ _ _ _ (by omega)).mono ?_; rintro e w' ⟨rfl, rfl⟩))
  go_ret
  exact ⟨_, rfl, by rw [ln_zero, dig_zero]; exact ⟨rfl, .inl ⟨rfl, rfl⟩⟩, Below.refl _ _⟩
 have hlp : ln n ≠ 0 := fun h => h0 (ln_eq_zero.1 h)
 have hd0 : decide (ln n = 0) = false := decide_eq_false hlp; have hmk := fun W => make_words2 98 Tryz.underlying98 (k : Int) ((k : Int) + (ln n : Int)) k (k + ln n) rfl (by omega) (by omega) (by omega) W
 have hown : (w.alloc (.cells (cells (List.replicate (k + ln n) 0)).toArray 123)).ownsRow w.heap.size 123 1 (.slice (some ⟨w.heap.size, 0, none⟩) k (k + ln n)) k (cells (List.replicate k 0)) := by
  have := own_made (heap_alloc_new w (.cells (cells (List.replicate (k + ln n) 0)).toArray 123)) (c := k + ln n) (n := k) (by simp) (by omega) (by omega) (base := w.heap.size) (Nat.le_refl _); rwa [List.take_replicate, Nat.min_eq_left (by omega)] at this
 have hrd : Reads (w.alloc (.cells (cells (List.replicate (k + ln n) 0)).toArray 123)) (w.alloc (.cells (cells (List.replicate (k + ln n) 0)).toArray 123)).heap.size 1 A1 (ln n) (cells (dig n)) := (h1.1.to (below_alloc (Below.refl _ _) _)).reads; have HO := Hd.mk hown; have HR := Hd.mk hrd; obtain ⟨i0, hi, hz0, hz1, hz2⟩ := info_parts Tryz.info_word; clear h1 hown hrd h0; go_enter Tryz.func140, Tryz.ntmps140
 go_wp2_with (first | (go_at_call 66; refine (zero_calls _ _ _ _ (by omega)).mono ?_; rintro e w' ⟨rfl, rfl⟩) | (at_builtin; refine wpList_append_any _ rfl (.tmp 12) (.tmp 13) 98 rfl w.heap.size 123 i0 (.int .u32 0) 1 4 Tryz.underlying98 hi hz0 hz1 hz2 rfl (by decide) (.slice (some ⟨w.heap.size, 0, none⟩) k (k + ln n)) k (cells (List.replicate k 0)) rfl HO.out _ A1 (ln n) c1 (cells (dig n)) rfl HR.out (cells_one _) (by unfold maxLen; omega) (by omega) (by simp) ?_; intro v1 w1 hown1 hg1 hat1))
 have hl : (List.replicate k 0 ++ dig n).length = k + ln n := by simp [ln]
 have hne : n ≠ 0 := fun h => hlp (ln_eq_zero.2 h)
 rw [← cells_append, ← hl] at hown1; rw [← dig_shift hne] at hown1; have HO1 := Hd.mk hown1; clear hown1; go_ret
 exact ⟨_, rfl, HO1.out, (below_alloc (Below.refl w.heap.size w) _).grown hg1 (by simp) (fun j e => by cases e; exact Nat.le_refl _)⟩
theorem pow_r {r : Nat} (h : r < 32) : 2 ^ r * 2 ^ (32 - r) = 4294967296 ∧ 0 < 2 ^ r := by
 rw [← Nat.pow_add, show r + (32 - r) = 32 from by omega]; exact ⟨by decide, Nat.pow_pos (by decide)⟩
theorem or_shift {o x r : Nat} (hr : r < 32) (ho : o < 2 ^ r) (hx : x < 4294967296) : o ||| (x * 2 ^ r % 4294967296) = o + x * 2 ^ r % 4294967296 := by
 obtain ⟨h1, h2⟩ := pow_r hr
 have e : x * 2 ^ r % 4294967296 = 2 ^ r * (x % 2 ^ (32 - r)) := by
  rw [← h1, Nat.mul_comm x, Nat.mul_mod_mul_left]
 rw [e, Nat.or_comm, Nat.add_comm]; exact (Nat.two_pow_add_eq_or_of_lt ho _).symm
theorem shl_word {x r : Nat} (hr : r < 32) (hx : x < 4294967296) : x * 2 ^ r < 18446744073709551616 ∧ x * 2 ^ r / 4294967296 < 2 ^ r := by
 obtain ⟨h1, h2⟩ := pow_r hr; have h3 : 2 ^ r ≤ 2 ^ 31 := Nat.pow_le_pow_right (by decide) (by omega); have h4 : (2 : Nat) ^ 31 = 2147483648 := by decide
 have h5 : x * 2 ^ r < 4294967296 * 2 ^ r := Nat.mul_lt_mul_of_pos_right hx h2; constructor
 ·omega
 rw [Nat.div_lt_iff_lt_mul (by decide), Nat.mul_comm (2 ^ r)]; exact h5
theorem val_two_sets {ds : List Nat} {k o lo hi V : Nat} (hl : k + 1 < ds.length) (ho : ds.getD k 0 = o) (hz : ds.getD (k + 1) 0 = 0) (h : val ds = V) :
  val ((ds.set k (o + lo)).set (k + 1) hi) = V + B ^ k * (lo + B * hi) := by
 have e1 := val_set (ds := ds) (i := k) (by omega) (o + lo); have e2 := val_set (ds := ds.set k (o + lo)) (i := k + 1) (by rw [List.length_set]; exact hl) hi; rw [getD_set_ne (by omega), hz] at e2; rw [ho, Nat.mul_add] at e1; simp only [Nat.pow_succ, Nat.mul_assoc] at e2; rw [Nat.mul_add]; omega
set_option maxHeartbeats 1000000 in
set_option maxRecDepth 100000 in
theorem shl_calls (A1 : Option Addr) (c1 n s : Nat) (w : World) (h1 : NN w A1 c1 n) (l1 : ln n ≤ 536870912) (l2 : s ≤ 1073741824) :
  Calls Tryz.prog 120 #[.slice A1 (ln n) c1, .int .i64 (s : Int)] w (RetO (n * 2 ^ s) w) := by
 have HX := Hd.mk h1; clear h1; obtain ⟨r, hr⟩ : ∃ r, r = s % 32 := ⟨_, rfl⟩; obtain ⟨q, hq⟩ : ∃ q, q = s / 32 := ⟨_, rfl⟩; have hr32 : r < 32 := by omega
 have hsr : (s : Int) % 32 = (r : Int) := by omega
 have hsq : (s : Int) / 32 = (q : Int) := by omega
 have hss : n * 2 ^ s = n * 2 ^ r * B ^ q := by
  rw [pow_B, Nat.mul_assoc, ← Nat.pow_add, hr, hq, Nat.mod_add_div]
 have hql : q ≤ 1073741824 := by omega
 have HSS := Hd.mk hss; clear hss hr hq; have hmk := fun W => make_words 98 Tryz.underlying98 ((ln n : Int) + 1) (ln n + 1) (by omega) (by omega) W
 go_enter Tryz.func120, Tryz.ntmps120
 go_wp2
 clear hmk; go_loopw [15] (fun s15 wr => ∃ (k : Nat) (ds : List Nat), k ≤ ln n ∧ s15 = .int .i64 k ∧ ds.length = ln n + 1 ∧ Dg ds ∧ val ds = val ((dig n).take k) * 2 ^ r ∧ ds.getD k 0 < 2 ^ r ∧ (∀ t, k < t → ds.getD t 0 = 0) ∧ Blk wr w.heap.size 123 (cells ds) ∧ Below w.heap.size w wr) (fun s _ => ln n - (intOf s).toNat)
 case atStart => exact ⟨0, List.replicate (ln n + 1) 0, Nat.zero_le _, rfl, by simp, dg_zeros _, by rw [val_zeros]; simp [val], by rw [getD_zeros]; exact Nat.pow_pos (by decide), fun t _ => getD_zeros _ t, heap_alloc_new w _, below_alloc (Below.refl _ _) _⟩
 case round =>
  obtain ⟨k, ds, hk, rfl, hdl, hdd, hval, hlo, hzz, hblk, hbel⟩ := hrel; have HV := Hd.mk hval; have HK := Hd.mk hblk; have HL := Hd.mk hdl; have HB := Hd.mk hbel; have HDD := Hd.mk hdd; have HZZ := Hd.mk hzz; have HLO := Hd.mk hlo; clear hval hblk hdl hbel hdd hzz hlo; by_cases hkl : k < ln n
  ·obtain ⟨a1, rfl, hcell1⟩ := (HX.out.to HB.out).at_ hkl; obtain ⟨x, hx⟩ : ∃ x, x = (dig n).getD k 0 := ⟨_, rfl⟩; have hx1 : x < 4294967296 := by rw [hx]; exact dg_get (dg_dig _) k
   rw [← hx] at hcell1; obtain ⟨o, ho⟩ : ∃ o, o = ds.getD k 0 := ⟨_, rfl⟩; have hck := HK.out.at_ (i := k) (by have := HL.out; omega); have hfz := HK.out.frozen k; rw [← ho] at hck; obtain ⟨t, ht⟩ : ∃ t, t = x * 2 ^ r := ⟨_, rfl⟩; obtain ⟨hs1, hs2⟩ := shl_word hr32 hx1; have hor := or_shift hr32 (by rw [ho]; exact HLO.out : o < 2 ^ r) hx1; rw [← ht] at hs1 hs2 hor; have hol : o < 4294967296 := by rw [ho]; exact dg_get HDD.out k
   obtain ⟨lo, hlo⟩ : ∃ lo, lo = t % 4294967296 := ⟨_, rfl⟩; obtain ⟨hi, hhi⟩ : ∃ hi, hi = t / 4294967296 := ⟨_, rfl⟩; rw [← hlo] at hor; rw [← hhi] at hs2
   have hsum : o + lo < 4294967296 := by
    have h1 : o ||| lo < 2 ^ 32 := Nat.or_lt_two_pow (by omega) (by omega); rw [hor] at h1; omega
   have hhil : hi < 4294967296 := by omega
   have e1 : IntKind.u64.wrap ((x : Int) * 2 ^ r) = (t : Int) := by
    have : ((x : Int) * 2 ^ r) = (t : Int) := by rw [ht]; simp
    rw [this, IntKind.wrap_u64]; omega
   have e2 : (t : Int) % 4294967296 = (lo : Int) := by omega
   have e3 : (t : Int) / 4294967296 = (hi : Int) := by omega
   obtain ⟨ol, hol2⟩ : ∃ ol, ol = o + lo := ⟨_, rfl⟩; have e4 : bits .or .u32 (o : Int) (lo : Int) = (ol : Int) := by rw [u32_or_nat _ _ (by omega) (by omega), hor, hol2]
   have hput := HK.out.put k ol; have hput2 := hput.put (k + 1) hi; have hck2 := HK.out.at_ (i := k + 1) (by have := HL.out; omega); rw [HZZ.out (k + 1) (by omega)] at hck2; have hfz2 := HK.out.frozen (k + 1); rw [← hol2] at hsum; have hnew := val_two_sets (ds := ds) (k := k) (o := o) (lo := lo) (hi := hi) (by have := HL.out; omega) ho.symm (HZZ.out (k + 1) (by omega)) HV.out; rw [← hol2] at hnew
   have hnew2 : val ((ds.set k ol).set (k + 1) hi) = val ((dig n).take (k + 1)) * 2 ^ r := by
    rw [hnew, val_take_next, ← hx, Nat.add_mul, Nat.mul_assoc, ← ht]; congr 2
    rw [hlo, hhi]; exact Nat.mod_add_div _ _
   have hg1 : ((ds.set k ol).set (k + 1) hi).getD (k + 1) 0 = hi := by
    have h1 := HL.out; rw [List.getD_eq_getElem?_getD, List.getElem?_set_self (by rw [List.length_set]; omega)]; rfl
   have HN := Hd.mk hnew2; have HP := Hd.mk hput2; have HG := Hd.mk hg1; have HS2 := Hd.mk hs2; clear hput hput2 hnew hnew2 hor hx ho ht hlo hhi hg1 hol2; go_wp2_with fail
   go_roundw
   case rel =>
    refine ⟨k + 1, (ds.set k ol).set (k + 1) hi, by omega, by go_num, by rw [List.length_set, List.length_set]; exact HL.out, dg_set (dg_set HDD.out _ hsum) _ hhil, HN.out, by rw [HG.out]; exact HS2.out, fun t ht => ?_, HP.out, below_set (below_set HB.out (Nat.le_refl _) _) (Nat.le_refl _) _⟩; rw [getD_set_ne (by omega), getD_set_ne (by omega)]; exact HZZ.out t (by omega)
   case measure => simp [intOf]; omega
  have hke : k = ln n := by omega
  subst hke
  have hv2 : val ds = n * 2 ^ r := by
   rw [HV.out, val_take_all (Nat.le_refl _)]
  have hc := norm_calls (some ⟨w.heap.size, 0, none⟩) (ln n + 1) ds _ HK.out.reads HDD.out (by have := HL.out; omega) (by omega); have hrn := HK.out.reads.of_take HDD.out; rw [HL.out, hv2] at hc; rw [hv2] at hrn
  have hfin : ln (n * 2 ^ r) ≤ ln n + 1 := by
   rw [← hv2]; have := val_lt HDD.out; rw [HL.out] at this; exact ln_le this
  have HC := Hd.mk hc; have HNN : Hd (NN wr (some ⟨w.heap.size, 0, none⟩) (ln n + 1) (n * 2 ^ r)) := ⟨⟨hrn, hfin, by omega⟩⟩; have HWO := Hd.mk (fun W (hW : Below wr.heap.size wr W) => words_own (some ⟨w.heap.size, 0, none⟩) (ln n + 1) (n * 2 ^ r) q W (HNN.out.to hW) (by omega) hql); rw [← HSS.out] at HWO; clear hv2 hc hrn HNN; go_wp2_with (first | (go_at_call 114; refine HC.out.mono ?_; rintro e w' ⟨rfl, rfl⟩) | (go_at_call 140; refine (HWO.out _ (Below.refl _ _)).mono ?_; rintro e w' ⟨v, rfl, ho, hb⟩; have HO := Hd.mk ho; have HB' := Hd.mk hb; clear ho hb))
  go_ret
  exact ⟨_, rfl, ownsRow_mono HO.out HB.out.size, below_then HB.out HB.out.size HB'.out⟩
set_option linter.unusedSimpArgs false
def isZ (z : Int) : SP := ⟨fun v w => ∃ A c, v = .agg #[.bool (decide (z < 0)), .slice A (ln z.natAbs) c] ∧ NN w A c z.natAbs, fun v w w' ⟨A, c, h, hn⟩ hb => ⟨A, c, h, hn.to hb⟩⟩
def isN (n : Nat) : SP := ⟨fun v w => ∃ A c, v = .slice A (ln n) c ∧ NN w A c n, fun v w w' ⟨A, c, h, hn⟩ hb => ⟨A, c, h, hn.to hb⟩⟩
def isZZ (q r : Int) : SP := ⟨fun v w => ∃ A c A' c', v = .tuple #[.agg #[.bool (decide (q < 0)), .slice A (ln q.natAbs) c], .agg #[.bool (decide (r < 0)), .slice A' (ln r.natAbs) c']] ∧ NN w A c q.natAbs ∧ NN w A' c' r.natAbs,
 fun v w w' ⟨A, c, A', c', h, h1, h2⟩ hb => ⟨A, c, A', c', h, h1.to hb, h2.to hb⟩⟩
section
variable {P : Program} {Q : Exit → Act → World → Prop} {o : Oper} {a : Act} {w : World} {d : Nat} {R : Value → World → Prop}
end
section
variable {w : World} {g : Nat} {x0 x1 : Value}
theorem load_api (h0 : w.cell? ⟨g, 0, none⟩ = some x0) (h1 : w.cell? ⟨g, 1, none⟩ = some x1) : (Instr.loadAt 25 (.pointer (some ⟨g, 0, none⟩))).run Tryz.prog w = .ok (.agg #[x0, x1]) w := by
 simp [go_sem, h0, h1]
theorem load_whole (h0 : w.cell? ⟨g, 0, none⟩ = some x0) (h1 : w.cell? ⟨g, 1, none⟩ = some x1) : (Instr.loadAt 100 (.pointer (some ⟨g, 0, none⟩))).run Tryz.prog w = .ok (.agg #[x0, x1]) w := by
 simp [go_sem, h0, h1]
theorem store_api (h0 : w.cell? ⟨g, 0, none⟩ = some x0) (h1 : w.cell? ⟨g, 1, none⟩ = some x1) (f0 : w.frozen? ⟨g, 0, none⟩ = false) (f1 : w.frozen? ⟨g, 1, none⟩ = false) (b : Bool) (A : Option Addr) (n c : Nat) :
  (Instr.storeAt 25 (.pointer (some ⟨g, 0, none⟩)) (.agg #[.bool b, .slice A n c])).run Tryz.prog w = .ok () ((w.setCell ⟨g, 0, none⟩ (.bool b)).setCell ⟨g, 1, none⟩ (.slice A n c)) := by
 simp [go_sem, h0, h1, f0, f1]
theorem alloc_api (w : World) : (Instr.alloc 25 true (.tuple #[])).run Tryz.prog w = .ok (.pointer (some ⟨w.heap.size, 0, none⟩)) (w.alloc (.cells [.bool false, .slice none 0 0].toArray 25)) := by
 simp [go_sem]
theorem alloc_whole (w : World) : (Instr.alloc 100 true (.tuple #[])).run Tryz.prog w = .ok (.pointer (some ⟨w.heap.size, 0, none⟩)) (w.alloc (.cells [.bool false, .slice none 0 0].toArray 100)) := by
 simp [go_sem]
end
section
variable {Q : Exit → Act → World → Prop} {id : Nat} {l : List Oper} {a0 : Act} {w0 : World}
end
section
variable {w X : World} {t t' : TypeId} {x0 x1 u v : Value} {g h n : Nat} {cs : List Value} {A : Option Addr} {c m : Nat}
theorem blk_put2 (hb : Blk X g t [x0, x1]) : Blk ((X.setCell ⟨g, 0, none⟩ u).setCell ⟨g, 1, none⟩ v) g t [u, v] := (hb.set_ 0 u).set_ 1 v
theorem blk_far2 (hb : Blk X g t cs) (hne : g ≠ h) : Blk ((X.setCell ⟨h, 0, none⟩ u).setCell ⟨h, 1, none⟩ v) g t cs := (hb.far (p := ⟨h, 0, none⟩) hne u).far (p := ⟨h, 1, none⟩) hne v
theorem nn_put2 {b : Bool} {a : Option Addr} {l k : Nat} (hn : NN X A c m) (hb : Blk X g t [.bool b, .slice a l k]) : NN ((X.setCell ⟨g, 0, none⟩ u).setCell ⟨g, 1, none⟩ v) A c m :=
 (hn.set_ hb.c0 (by intro t; simp) u).set_ (hb.set_ 0 u).c1 (by intro t; simp) v
theorem below_put2 (hb : Below n w X) (hg : n ≤ g) : Below n w ((X.setCell ⟨g, 0, none⟩ u).setCell ⟨g, 1, none⟩ v) := below_set (below_set hb hg u) hg v
end
theorem or_high (h l : Nat) (hl : l < 4294967296) (hh : h < 4294967296) : bits .or .u64 ((h : Int) * 4294967296) (l : Int) = ((h * 4294967296 + l : Nat) : Int) := by
 have e : ((h : Int) * 4294967296) = ((h * 4294967296 : Nat) : Int) := by omega
 rw [e, u64_or_nat _ _ (by omega) (by omega)]; have := Nat.two_pow_add_eq_or_of_lt (i := 32) hl h; congr 1
 rw [Nat.mul_comm h]; exact this.symm
theorem val_drop_cons {xs : List Nat} {k : Nat} (h : k < xs.length) : val (xs.drop k) = xs.getD k 0 + B * val (xs.drop (k + 1)) := by
 rw [List.drop_eq_getElem_cons h, val]; simp [h]
theorem val_drop_set {xs : List Nat} {k : Nat} (h : k < xs.length) (q : Nat) : val ((xs.set k q).drop k) = q + B * val (xs.drop (k + 1)) := by
 have e : (xs.set k q).drop k = q :: xs.drop (k + 1) := by
  rw [List.drop_eq_getElem_cons (by rw [List.length_set]; exact h), List.drop_set_of_lt (by omega)]; simp
 rw [e, val]
theorem div_word {r x b : Nat} (hr : r < b) (hb : b < 4294967296) (hx : x < 4294967296) : (r * 4294967296 + x) / b < 4294967296 ∧ (r * 4294967296 + x) % b < b := by
 refine ⟨?_, Nat.mod_lt _ (by omega)⟩; rw [Nat.div_lt_iff_lt_mul (by omega)]; have : (r + 1) * 4294967296 ≤ b * 4294967296 := Nat.mul_le_mul_right _ hr; omega
def RetNN (m n : Nat) (w : World) (e : Ending) (w' : World) : Prop := ∃ A c A' c', e = .returned (.tuple #[.slice A (ln m) c, .slice A' (ln n) c']) ∧ NN w' A c m ∧ NN w' A' c' n ∧ Below w.heap.size w w'
set_option maxHeartbeats 1000000 in
set_option maxRecDepth 100000 in
theorem short_calls (A1 : Option Addr) (c1 n b : Nat) (w : World) (h1 : NN w A1 c1 n) (l1 : ln n ≤ 1073741824) (hb0 : 0 < b) (hb : b < 4294967296) :
  Calls Tryz.prog 118 #[.slice A1 (ln n) c1, .int .u32 (b : Int)] w (RetNN (n / b) (n % b) w) := by
 have HX := Hd.mk h1; clear h1; have hmk := fun W => make_words 98 Tryz.underlying98 (ln n : Int) (ln n) (by omega) (by omega) W
 have hbz : ((b : Int) == 0) = false := by rw [beq_eq_false_iff_ne]; omega
 go_enter Tryz.func118, Tryz.ntmps118
 go_wp2
 clear hmk; go_loopw [7, 8] (fun s7 s8 wr => ∃ (k r : Nat) (ds : List Nat), k ≤ ln n ∧ s8 = .int .i64 ((k : Int) - 1) ∧ s7 = .int .u64 (r : Int) ∧ r < b ∧ ds.length = ln n ∧ Dg ds ∧ val ((dig n).drop k) = b * val (ds.drop k) + r ∧ Blk wr w.heap.size 123 (cells ds) ∧ Below w.heap.size w wr) (fun _ s _ => (intOf s + 1).toNat)
 case atStart => exact ⟨ln n, 0, List.replicate (ln n) 0, Nat.le_refl _, rfl, rfl, hb0, by simp, dg_zeros _, by rw [List.drop_eq_nil_of_le (show (dig n).length ≤ ln n from Nat.le_refl _), List.drop_eq_nil_of_le (by simp)]; simp [val], heap_alloc_new w _, below_alloc (Below.refl _ _) _⟩
 case round =>
  obtain ⟨k, r, ds, hk, rfl, rfl, hrb, hdl, hdd, hval, hblk, hbel⟩ := hrel; have HV := Hd.mk hval; have HK := Hd.mk hblk; have HL := Hd.mk hdl; have HB := Hd.mk hbel; have HDD := Hd.mk hdd; clear hval hblk hdl hbel hdd; rcases k with _ | k
  ·have hv : n = b * val ds + r := by have := HV.out; rwa [List.drop_zero, List.drop_zero, val_dig] at this
   have hq : val ds = n / b := by rw [hv, Nat.mul_add_div hb0, Nat.div_eq_of_lt hrb]; omega
   have hr : r = n % b := by rw [hv, Nat.mul_add_mod, Nat.mod_eq_of_lt hrb]
   have hc := norm_calls (some ⟨w.heap.size, 0, none⟩) (ln n) ds _ HK.out.reads HDD.out (by have := HL.out; omega) (by omega); have hrn := HK.out.reads.of_take HDD.out; rw [HL.out, hq] at hc; rw [hq] at hrn; have HC := Hd.mk hc; have HN1 : Hd (NN wr (some ⟨w.heap.size, 0, none⟩) (ln n) (n / b)) := ⟨⟨hrn, ln_mono (Nat.div_le_self _ _), by omega⟩⟩; have HS := Hd.mk (fun W => small_calls r (by unfold B; omega) W); rw [hr] at HS; have HR := Hd.mk hr; clear hv hq hc hrn; rw [hr] at hrb ⊢; clear hr; go_wp2_with (first | (go_at_call 114; refine HC.out.mono ?_; rintro e w' ⟨rfl, rfl⟩) | (go_at_call 92; refine (HS.out _).mono ?_; rintro e w' ⟨A3, c3, rfl, hn3, hb3⟩; have HN3 := Hd.mk hn3; have HB3 := Hd.mk hb3; clear hn3 hb3))
   go_ret2
   exact ⟨_, _, A3, c3, rfl, HN1.out.to HB3.out, HN3.out, below_then HB.out HB.out.size HB3.out⟩
  obtain ⟨a1, rfl, hcell1⟩ := (HX.out.to HB.out).at_ (k := k) (by omega); obtain ⟨x, hx⟩ : ∃ x, x = (dig n).getD k 0 := ⟨_, rfl⟩; have hx1 : x < 4294967296 := by rw [hx]; exact dg_get (dg_dig _) k
  rw [← hx] at hcell1; have hck := HK.out.at_ (i := k) (by have := HL.out; omega); have hfz := HK.out.frozen k; obtain ⟨t, ht⟩ : ∃ t, t = r * 4294967296 + x := ⟨_, rfl⟩; obtain ⟨hq1, hr1⟩ := div_word hrb hb hx1; rw [← ht] at hq1 hr1; have hd1 := val_drop_cons (xs := dig n) (k := k) (by unfold ln at hk; omega); obtain ⟨q, hq⟩ : ∃ q, q = t / b := ⟨_, rfl⟩; obtain ⟨r2, hr2⟩ : ∃ r2, r2 = t % b := ⟨_, rfl⟩; rw [← hq] at hq1; rw [← hr2] at hr1; have hd2 := val_drop_set (xs := ds) (k := k) (by have := HL.out; omega) q
  have hnew : val ((dig n).drop k) = b * val ((ds.set k q).drop k) + r2 := by
   rw [hd1, hd2, HV.out, ← hx]; have h1 : b * q + r2 = r * 4294967296 + x := by rw [hq, hr2, ← ht]; exact Nat.div_add_mod t b
   rw [Nat.mul_add, Nat.mul_add, Nat.mul_left_comm b B]; show x + (B * (b * val (List.drop (k + 1) ds)) + 4294967296 * r) = _; omega
  have hput := HK.out.put k q; have e1 : bits .or .u64 ((r : Int) * 4294967296) (x : Int) = (t : Int) := by rw [or_high r x hx1 (by omega), ht]
  have e2 : (t : Int) / (b : Int) = (q : Int) := by rw [hq]; exact (Int.natCast_ediv _ _).symm
  have e3 : (t : Int) % (b : Int) = (r2 : Int) := by rw [hr2]; exact (Int.natCast_emod _ _).symm
  have e4 : (q : Int) % 4294967296 = (q : Int) := by omega
  have hr64 : r * 4294967296 ≤ 18446744073709551615 := by omega
  have e5 : ((k + 1 : Nat) : Int) - 1 = (k : Int) := by omega
  rw [e5]; have HN := Hd.mk hnew; have HP := Hd.mk hput; have htl : t ≤ 18446744073709551615 := by omega
  clear hx ht hq hr2 hnew hput hd1 hd2 e5; go_wp2_with fail
  go_roundw
  case rel => exact ⟨k, r2, ds.set k q, by omega, rfl, by rw [e3], hr1, by rw [List.length_set]; exact HL.out, dg_set HDD.out _ hq1, HN.out, HP.out, below_set HB.out (Nat.le_refl _) _⟩
  case measure => simp [intOf]
end Go.Proofs.YtddbmckbankmeaaGreat.Ex
set_option linter.unusedVariables false
namespace Go.Proofs.YtddbmckbankmeaaGreat.Ex
theorem top_two {xs : List Nat} {m : Nat} (hl : xs.length = m + 2) (hd : Dg xs) : val xs = (xs.getD (m + 1) 0 * B + xs.getD m 0) * B ^ m + val (xs.take m) ∧ val (xs.take m) < B ^ m := by
 have h1 := val_take_next xs m; have h2 := val_take_next xs (m + 1); rw [List.take_of_length_le (show xs.length ≤ m + 1 + 1 by omega), h1] at h2; have h3 := val_lt (dg_take hd m); rw [List.length_take, Nat.min_eq_left (by omega)] at h3; refine ⟨?_, h3⟩; rw [h2, Nat.add_mul, Nat.pow_succ, Nat.mul_assoc, Nat.mul_comm (B ^ m) (xs.getD m 0), Nat.mul_assoc, Nat.mul_left_comm (B ^ m) B, Nat.mul_left_comm _ B, Nat.mul_comm (B ^ m)]; omega
theorem top_three {xs : List Nat} {m : Nat} (hl : xs.length = m + 3) (hd : Dg xs) : val xs = ((xs.getD (m + 2) 0 * B + xs.getD (m + 1) 0) * B + xs.getD m 0) * B ^ m + val (xs.take m) ∧ val (xs.take m) < B ^ m := by
 obtain ⟨h1, _⟩ := top_two (xs := xs) (m := m + 1) hl hd; have h2 := val_take_next xs m; have h3 := val_lt (dg_take hd m); rw [List.length_take, Nat.min_eq_left (by omega)] at h3; refine ⟨?_, h3⟩; rw [h1, h2]; generalize xs.getD (m + 1 + 1) 0 * B + xs.getD (m + 1) 0 = X; rw [Nat.add_mul, Nat.pow_succ, Nat.mul_comm (B ^ m) B, ← Nat.mul_assoc, Nat.mul_comm (B ^ m) (xs.getD m 0)]; omega
section
variable {W v v1 v2 u2 top D vl wl g rest : Nat}
theorem kn_init (hv : v = (v1 * B + v2) * D + vl) (hW : W = (top * B + u2) * D + wl) (hwl : wl < D) (hu2 : u2 < B) (hv1 : 0 < v1) (hWv : W < v * B) : W / v ≤ min (top / v1) 4294967295 := by
 have hv0 : 0 < v := by
  rcases Nat.eq_zero_or_pos v with h | h
  ·rw [h] at hWv; omega
  exact h
 have hD : 0 < D := by omega
 apply Nat.le_min.2; constructor
 ·rw [Nat.le_div_iff_mul_le hv1]; have h1 : W / v * v ≤ W := Nat.div_mul_le_self _ _; have h2 : W / v * ((v1 * B) * D) ≤ W / v * v := Nat.mul_le_mul_left _ (by rw [hv, Nat.add_mul]; omega)
  have h3 : W < (top + 1) * B * D := by
   have : (top * B + u2) * D + D ≤ ((top + 1) * B) * D := by
    rw [← Nat.succ_mul]; apply Nat.mul_le_mul_right; rw [Nat.add_mul]; omega
   omega
  have h4 : (W / v * v1) * (B * D) < (top + 1) * (B * D) := by
   rw [← Nat.mul_assoc (top + 1), Nat.mul_assoc (W / v)]; rw [Nat.mul_assoc v1] at h2; omega
  have := Nat.lt_of_mul_lt_mul_right h4; omega
 have : W / v < B := by rw [Nat.div_lt_iff_lt_mul hv0, Nat.mul_comm]; exact hWv
 unfold B at this; omega
theorem kn_step (hv : v = (v1 * B + v2) * D + vl) (hW : W = (top * B + u2) * D + wl) (hwl : wl < D) (hr : g * v1 + rest = top) (hq : W / v ≤ g) (ht : rest * B + u2 < g * v2) : 1 ≤ g ∧ W / v ≤ g - 1 := by
 have hg : 1 ≤ g := by
  rcases Nat.eq_zero_or_pos g with h | h
  ·rw [h] at ht; omega
  exact h
 refine ⟨hg, ?_⟩; rcases Nat.lt_or_ge (W / v) g with h | h
 ·omega
 exfalso; have e : W / v = g := by omega
 have h1 : g * v ≤ W := by rw [← e]; exact Nat.div_mul_le_self _ _
 have h2 : g * ((v1 * B + v2) * D) ≤ g * v := Nat.mul_le_mul_left _ (by rw [hv]; omega)
 have h3 : (top * B + u2 + 1) * D ≤ g * ((v1 * B + v2) * D) := by
  rw [← Nat.mul_assoc]; apply Nat.mul_le_mul_right; rw [Nat.mul_add, ← Nat.mul_assoc, ← hr, Nat.add_mul]; omega
 rw [Nat.add_mul _ 1] at h3; omega
theorem kn_exit (hr : g * v1 + rest = top) (hv2 : v2 < B) (hg : g < B) (ht : B ≤ rest ∨ g * v2 ≤ rest * B + u2) : g * (v1 * B + v2) ≤ top * B + u2 := by
 rw [Nat.mul_add, ← Nat.mul_assoc, ← hr, Nat.add_mul]; rcases ht with h | h
 ·have h1 : g * v2 ≤ B * B := Nat.mul_le_mul (by omega) (by omega); have h2 : B * B ≤ rest * B := Nat.mul_le_mul_right _ h; omega
 omega
theorem kn_fix (hv : v = (v1 * B + v2) * D + vl) (hW : W = (top * B + u2) * D + wl) (hvl : vl < D) (hv1 : 0 < v1) (hg : g < B) (hq : W / v ≤ g) (hx : g * (v1 * B + v2) ≤ top * B + u2) :
  (W < g * v → 1 ≤ g ∧ (g - 1) * v ≤ W ∧ W < (g - 1) * v + v) ∧ (¬ W < g * v → W < g * v + v) := by
 have hD : 0 < D := by omega
 have hB : B ≤ v1 * B := Nat.le_mul_of_pos_left _ hv1
 have hv0 : 0 < v := by
  have : (v1 * B + v2) * D ≥ 1 * D := Nat.mul_le_mul_right _ (by have := B_pos; omega); omega
 constructor
 ·intro hlt
  have hg1 : 1 ≤ g := by
   rcases Nat.eq_zero_or_pos g with h | h
   ·rw [h] at hlt; omega
   exact h
  refine ⟨hg1, ?_, ?_⟩
  ·have h1 : (g - 1) * v ≤ (g - 1) * ((v1 * B + v2 + 1) * D) := Nat.mul_le_mul_left _ (by rw [hv, Nat.add_mul _ 1]; omega)
   have h2 : (g - 1) * ((v1 * B + v2 + 1) * D) ≤ (top * B + u2) * D := by
    rw [← Nat.mul_assoc]; apply Nat.mul_le_mul_right
    have e : (g - 1) * (v1 * B + v2) + (v1 * B + v2) = g * (v1 * B + v2) := by
     rw [← Nat.succ_mul]; congr 1
     omega
    rw [Nat.mul_add _ _ 1]; omega
   omega
  have e : (g - 1) * v + v = g * v := by
   rw [← Nat.succ_mul]; congr 1
   omega
  omega
 intro hge
 have h1 : W < (W / v + 1) * v := by
  have := Nat.lt_div_mul_add (a := W) hv0; rw [Nat.add_mul, Nat.one_mul]; exact this
 have h2 : (W / v + 1) * v ≤ (g + 1) * v := Nat.mul_le_mul_right _ (by omega); rw [Nat.add_mul g, Nat.one_mul] at h2; omega
end
def Long (N v k : Nat) (us qs : List Nat) : Prop := N = v * (B ^ k * val (qs.drop k)) + val us ∧ val us < v * B ^ k
theorem long_start {N v k : Nat} {us qs : List Nat} (h : val us = N) (hN : N < v * B ^ k) (hq : qs.length ≤ k) : Long N v k us qs := by
 subst h; refine ⟨?_, hN⟩; rw [List.drop_eq_nil_of_le hq, val, Nat.mul_zero, Nat.mul_zero, Nat.zero_add]
theorem long_high {us : List Nat} {v n j L : Nat} (hl : us.length = L) (hd : Dg us) (hn : v < B ^ n) (h : val us < v * B ^ (j + 1)) (hj : j + n + 1 ≤ L) :
  val us = val (us.take j) + B ^ j * val ((us.drop j).take (n + 1)) ∧ val ((us.drop j).drop (n + 1)) = 0 ∧ val ((us.drop j).take (n + 1)) < v * B := by
 have e1 := val_split (xs := us) (k := j) (by omega); have e2 := val_split (xs := us.drop j) (k := n + 1) (by rw [List.length_drop]; omega)
 have hz : val ((us.drop j).drop (n + 1)) = 0 := by
  rcases Nat.eq_zero_or_pos (val ((us.drop j).drop (n + 1))) with h0 | h0
  ·exact h0
  exfalso; have h1 : B ^ (n + 1) * 1 ≤ B ^ (n + 1) * val ((us.drop j).drop (n + 1)) := Nat.mul_le_mul_left _ h0; have h2 : B ^ j * (B ^ (n + 1) * 1) ≤ B ^ j * val (us.drop j) := Nat.mul_le_mul_left _ (by omega); have h3 : v * B ^ (j + 1) < B ^ n * B ^ (j + 1) := Nat.mul_lt_mul_of_pos_right hn (Nat.pow_pos B_pos); rw [Nat.mul_one, ← Nat.pow_add] at h2; rw [← Nat.pow_add, show n + (j + 1) = j + (n + 1) from by omega] at h3; omega
 rw [hz, Nat.mul_zero, Nat.add_zero] at e2; rw [e2] at e1; refine ⟨e1, hz, ?_⟩
 have h4 : B ^ j * val ((us.drop j).take (n + 1)) < B ^ j * (v * B) := by
  rw [Nat.pow_succ] at h; rw [Nat.mul_left_comm]; omega
 exact Nat.lt_of_mul_lt_mul_left h4
theorem long_step {N v j n g r L : Nat} {us qs ds : List Nat} (hl : us.length = L) (hd : Dg us) (hn : v < B ^ n) (hj : j + n + 1 ≤ L) (hlq : j < qs.length) (h : Long N v (j + 1) us qs) (hW : val ((us.drop j).take (n + 1)) = g * v + r) (hr : r < v) (hds : val ds = r) (hdl : ds.length = n + 1) :
  Long N v j (us.take j ++ (ds ++ (us.drop j).drop (n + 1))) (qs.set j g) := by
 obtain ⟨h1, h2⟩ := h; obtain ⟨e1, e2, e3⟩ := long_high hl hd hn h2 hj; have hp := val_lt (dg_take hd j); rw [List.length_take, Nat.min_eq_left (by omega)] at hp
 have hv2 : val (us.take j ++ (ds ++ (us.drop j).drop (n + 1))) = val (us.take j) + B ^ j * r := by
  rw [val_append, val_append, e2, hds, List.length_take, Nat.min_eq_left (by omega)]; simp
 refine ⟨?_, ?_⟩
 ·rw [h1, e1, hv2, hW, val_drop_set hlq, Nat.mul_add (B ^ j) g, Nat.mul_add v, Nat.mul_add (B ^ j), Nat.pow_succ, Nat.mul_assoc (B ^ j), Nat.mul_left_comm v (B ^ j) g, Nat.mul_comm v g]; omega
 rw [hv2, Nat.mul_comm v]; have : B ^ j * (r + 1) ≤ B ^ j * v := Nat.mul_le_mul_left _ hr; rw [Nat.mul_add] at this; omega
end Go.Proofs.YtddbmckbankmeaaGreat.Ex
set_option linter.unusedVariables false
namespace Go.Proofs.YtddbmckbankmeaaGreat.Ex
open Go.RowKit
theorem only_setCell {a w : World} {g : Nat} (h : a.grownBy w (some g)) {p : Addr} (hp : p.block = g) (u : Value) : a.grownBy (w.setCell p u) (some g) :=
 ⟨h.os, h.tape, h.output, by simpa [World.setCell] using h.size, fun i hi hne => (Below.heap_setCell w p u i (by
  rintro rfl
  exact hne (by rw [hp]))).trans (h.block i hi hne)⟩
def Far (A : Option Addr) (g : Nat) : Prop := ∀ ad, A = some ad → ad.block ≠ g
theorem RN.only {w w' : World} {A : Option Addr} {xs : List Nat} {g : Nat} (h : RN w A xs) (hg : w.grownBy w' (some g)) (hA : Far A g) : RN w' A xs := fun hn => by
 obtain ⟨ad, e, hc⟩ := h hn; refine ⟨ad, e, fun j hj => ?_⟩; have h1 := hc j hj; rw [← h1]; have hlt := World.block_lt_of_cell? w _ h1; refine World.cell?_of_block (hg.block _ hlt (fun h2 => ?_)); rw [block_add] at h2; exact hA ad e (Option.some.inj h2)
theorem NN.only {w w' : World} {A : Option Addr} {c n g : Nat} (h : NN w A c n) (hg : w.grownBy w' (some g)) (hA : Far A g) : NN w' A c n := ⟨h.1.only hg hA, h.2⟩
theorem _root_.Go.Proofs.YtddbmckbankmeaaGreat.Blk.only {w w' : World} {g g' : Nat} {t : TypeId} {cs : List Value} (h : Blk w g' t cs) (hg : w.grownBy w' (some g)) (hne : g' ≠ g) : Blk w' g' t cs :=
 (hg.block g' h.lt (fun e => hne (Option.some.inj e))).trans h
theorem seg_get {pre : List Value} {us : List Nat} {post : List Value} {j i : Nat} (hj : pre.length = j) (hi : i < us.length) : (pre ++ (cells us ++ post))[j + i]? = some (.int .u32 ((us.getD i 0 : Nat) : Int)) := by
 rw [List.getElem?_append_right (by omega), hj, Nat.add_sub_cancel_left, List.getElem?_append_left (by rw [cells_length]; exact hi), cells_get us hi]
theorem seg_set {pre : List Value} {us : List Nat} {post : List Value} {j i x : Nat} (hj : pre.length = j) (hi : i < us.length) : (pre ++ (cells us ++ post)).set (j + i) (.int .u32 ((x : Nat) : Int)) = pre ++ (cells (us.set i x) ++ post) := by
 rw [List.set_append_right _ _ (by omega), hj, Nat.add_sub_cancel_left, List.set_append_left _ _ (by rw [cells_length]; exact hi), cells_set]
theorem over_next {ds us : List Nat} {k : Nat} (hl : ds.length = k) (hk : k < us.length) (x : Nat) : (ds ++ us.drop k).set k x = (ds ++ [x]) ++ us.drop (k + 1) := by
 rw [List.set_append_right _ _ (by omega), hl, Nat.sub_self, List.drop_eq_getElem_cons hk, List.set_cons_zero]; simp
theorem over_get {ds us : List Nat} {k : Nat} (hl : ds.length = k) (hk : k < us.length) : (ds ++ us.drop k).getD k 0 = us.getD k 0 := by
 rw [List.getD_eq_getElem?_getD, List.getElem?_append_right (by omega), hl, Nat.sub_self, List.getElem?_drop, List.getD_eq_getElem?_getD, Nat.add_zero]
theorem take_step {ds : List Nat} {k c bw u y g U V : Nat} (hl : ds.length = k) (hu : u < 4294967296) (hb : bw ≤ 1) (h : val ds + g * V = U + B ^ k * c + B ^ k * bw) :
  val (ds ++ [(4294967296 + u - (g * y + c) % 4294967296 - bw) % 4294967296]) + g * (V + B ^ k * y) = (U + B ^ k * u) + B ^ (k + 1) * ((g * y + c) / 4294967296) + B ^ (k + 1) * (if u < (g * y + c) % 4294967296 + bw then 1 else 0) := by
 have hx : (g * y + c) % 4294967296 < 4294967296 := Nat.mod_lt _ (by decide); have e := sub_digit hu hx hb
 have e0 : B ^ k * ((g * y + c) % 4294967296) + B ^ k * (B * ((g * y + c) / 4294967296)) = B ^ k * (g * y) + B ^ k * c := by
  rw [← Nat.mul_add, ← Nat.mul_add]; congr 1
  exact Nat.mod_add_div _ _
 generalize (4294967296 + u - (g * y + c) % 4294967296 - bw) % 4294967296 = d at e ⊢; generalize (if u < (g * y + c) % 4294967296 + bw then 1 else 0 : Nat) = z at e ⊢; generalize (g * y + c) % 4294967296 = x at e e0 ⊢; generalize (g * y + c) / 4294967296 = c2 at e0 ⊢; rw [val_snoc, hl, Nat.pow_succ, Nat.mul_assoc, Nat.mul_assoc, Nat.mul_add, Nat.mul_left_comm g]; have e2 : B ^ k * (d + x + bw) = B ^ k * (u + B * z) := by rw [e]; rfl
 rw [Nat.mul_add, Nat.mul_add, Nat.mul_add] at e2; omega
def RetTake (us : List Nat) (q L gB : Nat) (pre post : List Value) (w : World) (e : Ending) (w' : World) : Prop := e = .returned (.bool (decide (val us < q))) ∧ ∃ ds : List Nat, ds.length = L ∧ Dg ds ∧ val ds + q = val us + (if val us < q then B ^ L else 0) ∧ Blk w' gB 123 (pre ++ (cells ds ++ post)) ∧ w.grownBy w' (some gB)
set_option maxHeartbeats 2000000 in
set_option maxRecDepth 100000 in
theorem take_calls (gB j L cu : Nat) (pre post : List Value) (us : List Nat) (A2 : Option Addr) (c2 v g : Nat) (w : World) (hp : pre.length = j) (hu : us.length = L) (hdu : Dg us) (hBk : Blk w gB 123 (pre ++ (cells us ++ post))) (h2 : NN w A2 c2 v) (hA : Far A2 gB) (hL : L ≤ 1073741824) (hj : j ≤ 1073741824) (hcu : L ≤ cu) (hlv : ln v < L) (hg : g < 4294967296) :
  Calls Tryz.prog 121 #[.slice (some ⟨gB, j, none⟩) L cu, .slice A2 (ln v) c2, .int .u32 (g : Int)] w (RetTake us (g * v) L gB pre post w) := by
 have HY := Hd.mk h2; have HK0 := Hd.mk hBk; have HP := Hd.mk hp; have HU := Hd.mk hu; have HDU := Hd.mk hdu; have HA := Hd.mk hA; clear h2 hBk hp hu hdu hA; go_enter Tryz.func121, Tryz.ntmps121
 go_wp2
 go_loopw [7, 8, 14] (fun s7 s8 s14 wr => ∃ (k c bw : Nat) (ds : List Nat), k ≤ L ∧ s14 = .int .i64 k ∧ s7 = .int .u64 (c : Int) ∧ s8 = .int .u32 (bw : Int) ∧ c < 4294967296 ∧ bw ≤ 1 ∧ (ln v < k → c = 0) ∧ ds.length = k ∧ Dg ds ∧ val ds + g * val ((dig v).take k) = val (us.take k) + B ^ k * c + B ^ k * bw ∧ Blk wr gB 123 (pre ++ (cells (ds ++ us.drop k) ++ post)) ∧ w.grownBy wr (some gB)) (fun _ _ s _ => L - (intOf s).toNat)
 case atStart => exact ⟨0, 0, 0, [], Nat.zero_le _, rfl, rfl, rfl, by omega, by omega, fun _ => rfl, rfl, (fun x hx => by cases hx), by simp [val], HK0.out, World.grownBy.refl _ _⟩
 case round =>
  obtain ⟨k, c, bw, ds, hk, rfl, rfl, rfl, hc, hbw, hc0, hdl, hdd, hval, hblk, hgr⟩ := hrel; have HV := Hd.mk hval; have HK := Hd.mk hblk; have HL := Hd.mk hdl; have HG := Hd.mk hgr; have HDD := Hd.mk hdd; have HC0 := Hd.mk hc0; clear hval hblk hdl hgr hdd hc0; by_cases hkl : k < L
  ·have hkl2 : (ds ++ us.drop k).length = L := by rw [List.length_append, List.length_drop, HL.out, HU.out]; omega
   have hck : wr.cell? ⟨gB, j + k, none⟩ = some (.int .u32 ((us.getD k 0 : Nat) : Int)) := by
    rw [HK.out.cell, seg_get HP.out (by omega), over_get HL.out (by have := HU.out; omega)]
   have hfz := HK.out.frozen (j + k); obtain ⟨u, huq⟩ : ∃ u, u = us.getD k 0 := ⟨_, rfl⟩; have hul : u < 4294967296 := by rw [huq]; exact dg_get HDU.out k
   rw [← huq] at hck; obtain ⟨y, hy⟩ : ∃ y, y = (dig v).getD k 0 := ⟨_, rfl⟩; have hyl : y < 4294967296 := by rw [hy]; exact dg_get (dg_dig v) k
   have hstep := take_step (ds := ds) (k := k) (c := c) (bw := bw) (u := u) (y := y) (g := g) HL.out hul hbw HV.out; rw [huq, ← val_take_next, hy, ← val_take_next, ← hy, ← huq] at hstep; obtain ⟨hf1, hf2, hf3⟩ := mul_fits (x := g) (y := y) (o := 0) (c := c) hg hyl (by omega) hc; rw [Nat.add_zero] at hf2 hf3; obtain ⟨p, hpq⟩ : ∃ p, p = g * y := ⟨_, rfl⟩; rw [← hpq] at hf1 hf2 hf3 hstep; obtain ⟨x, hx⟩ : ∃ x, x = (p + c) % 4294967296 := ⟨_, rfl⟩; obtain ⟨c3, hc3⟩ : ∃ c3, c3 = (p + c) / 4294967296 := ⟨_, rfl⟩; have hxl : x < 4294967296 := by omega
   rw [← hc3] at hf3; rw [← hx, ← hc3] at hstep; have hput := HK.out.set_ (j + k) (.int .u32 (((4294967296 + u - x - bw) % 4294967296 : Nat) : Int)); rw [seg_set HP.out (by omega), over_next HL.out (by have := HU.out; omega)] at hput; have HS := Hd.mk (fun W => sub32_calls u x bw hul hxl hbw W); have hb1 : (if u < x + bw then 1 else 0 : Nat) ≤ 1 := by split <;> omega
   obtain ⟨b2, hb2⟩ : ∃ b2 : Nat, b2 = (if u < x + bw then 1 else 0 : Nat) := ⟨_, rfl⟩; obtain ⟨dd, hdd2⟩ : ∃ dd : Nat, dd = (4294967296 + u - x - bw) % 4294967296 := ⟨_, rfl⟩; have hddl : dd < B := by rw [hdd2]; exact Nat.mod_lt _ (by decide)
   rw [← hb2, ← hdd2] at hstep HS; rw [← hb2] at hb1; rw [← hdd2] at hput; have e1 : ((p : Int) + (c : Int)) % 4294967296 = (x : Int) := by omega
   have e2 : ((p : Int) + (c : Int)) / 4294967296 = (c3 : Int) := by omega
   have e3 : (g : Int) * (y : Int) = (p : Int) := by rw [hpq]; exact (Int.natCast_mul g y).symm
   have hf2' : (p : Int) + (c : Int) ≤ 18446744073709551615 := by omega
   have HST := Hd.mk hstep; have HPT := Hd.mk hput; by_cases hkq : k < ln v
   ·obtain ⟨a2, rfl, hcell2⟩ := (HY.out.only HG.out HA.out).at_ hkq; rw [← hy] at hcell2; have HC3 : Hd (ln v < k + 1 → c3 = 0) := ⟨fun h => by omega⟩; clear hstep hput hb2 hdd2 hpq hx hc3 huq hy hkl2; go_wp2_with (first | (go_at_call 117; refine (HS.out _).mono ?_; rintro e w' ⟨rfl, rfl⟩))
    go_roundw
    case rel => exact ⟨k + 1, c3, b2, ds ++ [dd], by omega, by go_num, by first | rfl | rw [e2], rfl, hf3, hb1, HC3.out, by rw [List.length_append, HL.out]; rfl, dg_append HDD.out (dg_one hddl), HST.out, HPT.out, only_setCell HG.out rfl _⟩
    case measure => simp [intOf]; omega
   have hy0 : y = 0 := by rw [hy]; exact getD_zero_of_le (by unfold ln at hkq; omega)
   have hp0 : p = 0 := by rw [hpq, hy0]; rfl
   have hxc : x = c := by omega
   have hc30 : c3 = 0 := by omega
   have e4 : (c : Int) % 4294967296 = (c : Int) := by omega
   rw [hxc] at HS; rw [hc30] at HST; clear hstep hput hb2 hdd2 hpq hx hc3 huq hy hkl2 hy0 hp0 e1 e2 e3 hxc; go_wp2_with (first | (go_at_call 117; refine (HS.out _).mono ?_; rintro e w' ⟨rfl, rfl⟩))
   go_roundw
   case rel => exact ⟨k + 1, 0, b2, ds ++ [dd], by omega, by go_num, rfl, rfl, by omega, hb1, fun _ => rfl, by rw [List.length_append, HL.out]; rfl, dg_append HDD.out (dg_one hddl), HST.out, HPT.out, only_setCell HG.out rfl _⟩
   case measure => simp [intOf]; omega
  have hke : k = L := by omega
  subst hke; have hcz := HC0.out hlv; have hv := HV.out; rw [hcz, List.take_of_length_le (show us.length ≤ k by have := HU.out; omega), List.take_of_length_le (show (dig v).length ≤ k by rw [dig_length]; omega), val_dig] at hv; have hdlt := val_lt HDD.out; rw [HL.out] at hdlt
  have hblk : Blk wr gB 123 (pre ++ (cells ds ++ post)) := by
   have := HK.out; rwa [List.drop_eq_nil_of_le (by have := HU.out; omega), List.append_nil] at this
  have HKK := Hd.mk hblk
  have hcase : decide (val us < g * v) = decide (bw ≠ 0) ∧ val ds + g * v = val us + (if val us < g * v then B ^ k else 0) := by
   rcases Nat.lt_or_ge bw 1 with h | h
   ·have : bw = 0 := by omega
    subst this; have hn : ¬ val us < g * v := by omega
    rw [if_neg hn]; exact ⟨by simp [hn], by omega⟩
   have : bw = 1 := by omega
   subst this; have hn : val us < g * v := by omega
   rw [if_pos hn]; exact ⟨by simp [hn], by omega⟩
  have HCS := Hd.mk hcase; clear hcase hv hblk hdlt hcz; go_wp2_with fail
  go_ret
  refine ⟨?_, ds, HL.out, HDD.out, HCS.out.2, HKK.out, HG.out⟩; rw [HCS.out.1]; exact ret_bool (by rw [Bool.eq_iff_iff]; simp; try omega)
def RetGive (us : List Nat) (q L gB : Nat) (pre post : List Value) (w : World) (e : Ending) (w' : World) : Prop := e = .returned (.tuple #[]) ∧ ∃ ds : List Nat, ds.length = L ∧ Dg ds ∧ val ds = (val us + q) % B ^ L ∧ Blk w' gB 123 (pre ++ (cells ds ++ post)) ∧ w.grownBy w' (some gB)
set_option maxHeartbeats 2000000 in
set_option maxRecDepth 100000 in
theorem give_calls (gB j L cu : Nat) (pre post : List Value) (us : List Nat) (A2 : Option Addr) (c2 v : Nat) (w : World) (hp : pre.length = j) (hu : us.length = L) (hdu : Dg us) (hBk : Blk w gB 123 (pre ++ (cells us ++ post))) (h2 : NN w A2 c2 v) (hA : Far A2 gB) (hL : L ≤ 1073741824) (hj : j ≤ 1073741824) (hcu : L ≤ cu) (hlv : ln v ≤ L) :
  Calls Tryz.prog 122 #[.slice (some ⟨gB, j, none⟩) L cu, .slice A2 (ln v) c2] w (RetGive us v L gB pre post w) := by
 have HY := Hd.mk h2; have HK0 := Hd.mk hBk; have HP := Hd.mk hp; have HU := Hd.mk hu; have HDU := Hd.mk hdu; have HA := Hd.mk hA; clear h2 hBk hp hu hdu hA; go_enter Tryz.func122, Tryz.ntmps122
 go_wp2
 go_loopw [4, 9] (fun s4 s9 wr => ∃ (k cy : Nat) (ds : List Nat), k ≤ L ∧ s9 = .int .i64 k ∧ s4 = .int .u32 (cy : Int) ∧ cy ≤ 1 ∧ ds.length = k ∧ Dg ds ∧ val ds + B ^ k * cy = val (us.take k) + val ((dig v).take k) ∧ Blk wr gB 123 (pre ++ (cells (ds ++ us.drop k) ++ post)) ∧ w.grownBy wr (some gB)) (fun _ s _ => L - (intOf s).toNat)
 case atStart => exact ⟨0, 0, [], Nat.zero_le _, rfl, rfl, by omega, rfl, (fun x hx => by cases hx), by simp [val], HK0.out, World.grownBy.refl _ _⟩
 case round =>
  obtain ⟨k, cy, ds, hk, rfl, rfl, hcy, hdl, hdd, hval, hblk, hgr⟩ := hrel; have HV := Hd.mk hval; have HK := Hd.mk hblk; have HL := Hd.mk hdl; have HG := Hd.mk hgr; have HDD := Hd.mk hdd; clear hval hblk hdl hgr hdd; by_cases hkl : k < L
  ·have hkl2 : (ds ++ us.drop k).length = L := by rw [List.length_append, List.length_drop, HL.out, HU.out]; omega
   have hck : wr.cell? ⟨gB, j + k, none⟩ = some (.int .u32 ((us.getD k 0 : Nat) : Int)) := by
    rw [HK.out.cell, seg_get HP.out (by omega), over_get HL.out (by have := HU.out; omega)]
   have hfz := HK.out.frozen (j + k); obtain ⟨u, huq⟩ : ∃ u, u = us.getD k 0 := ⟨_, rfl⟩; have hul : u < 4294967296 := by rw [huq]; exact dg_get HDU.out k
   rw [← huq] at hck; obtain ⟨y, hy⟩ : ∃ y, y = (dig v).getD k 0 := ⟨_, rfl⟩; have hyl : y < 4294967296 := by rw [hy]; exact dg_get (dg_dig v) k
   have hstep := add_step (ds := ds) (k := k) (cy := cy) (a := u) (b := y) HL.out HV.out; rw [huq, ← val_take_next, hy, ← val_take_next, ← hy, ← huq] at hstep; have hput := HK.out.set_ (j + k) (.int .u32 (((u + y + cy) % 4294967296 : Nat) : Int)); rw [seg_set HP.out (by omega), over_next HL.out (by have := HU.out; omega)] at hput; have HS := Hd.mk (fun W => add32_calls u y cy hul hyl hcy W); obtain ⟨b2, hb2⟩ : ∃ b2 : Nat, b2 = (u + y + cy) / 4294967296 := ⟨_, rfl⟩; have hb1 : b2 ≤ 1 := by omega
   obtain ⟨dd, hdd2⟩ : ∃ dd : Nat, dd = (u + y + cy) % 4294967296 := ⟨_, rfl⟩; have hddl : dd < B := by rw [hdd2]; exact Nat.mod_lt _ (by decide)
   rw [← hb2, ← hdd2] at hstep HS; rw [← hdd2] at hput; have HST := Hd.mk hstep; have HPT := Hd.mk hput; by_cases hkq : k < ln v
   ·obtain ⟨a2, rfl, hcell2⟩ := (HY.out.only HG.out HA.out).at_ hkq; rw [← hy] at hcell2; clear hstep hput hb2 hdd2 huq hy hkl2; go_wp2_with (first | (go_at_call 116; refine (HS.out _).mono ?_; rintro e w' ⟨rfl, rfl⟩))
    go_roundw
    case rel => exact ⟨k + 1, b2, ds ++ [dd], by omega, by go_num, rfl, hb1, by rw [List.length_append, HL.out]; rfl, dg_append HDD.out (dg_one hddl), HST.out, HPT.out, only_setCell HG.out rfl _⟩
    case measure => simp [intOf]; omega
   have hy0 : y = 0 := by rw [hy]; exact getD_zero_of_le (by unfold ln at hkq; omega)
   rw [hy0] at HS; clear hstep hput hb2 hdd2 huq hy hkl2 hy0; go_wp2_with (first | (go_at_call 116; refine (HS.out _).mono ?_; rintro e w' ⟨rfl, rfl⟩))
   go_roundw
   case rel => exact ⟨k + 1, b2, ds ++ [dd], by omega, by go_num, rfl, hb1, by rw [List.length_append, HL.out]; rfl, dg_append HDD.out (dg_one hddl), HST.out, HPT.out, only_setCell HG.out rfl _⟩
   case measure => simp [intOf]; omega
  have hke : k = L := by omega
  subst hke; have hv := HV.out; rw [List.take_of_length_le (show us.length ≤ k by have := HU.out; omega), List.take_of_length_le (show (dig v).length ≤ k by rw [dig_length]; omega), val_dig] at hv; have hdlt := val_lt HDD.out; rw [HL.out] at hdlt
  have hblk : Blk wr gB 123 (pre ++ (cells ds ++ post)) := by
   have := HK.out; rwa [List.drop_eq_nil_of_le (by have := HU.out; omega), List.append_nil] at this
  have HKK := Hd.mk hblk; have HVV : Hd (val ds = (val us + v) % B ^ k) := ⟨by rw [← hv, Nat.add_mul_mod_self_left, Nat.mod_eq_of_lt hdlt]⟩; clear hv hblk hdlt; go_wp2_with fail
  refine bodyPost_ret (v := .tuple #[]) (by simp [results, Tryz.results122, go_sem]) rfl ?_; exact ⟨rfl, ds, HL.out, HDD.out, HVV.out, HKK.out, HG.out⟩
def inInt (z : Int) : Prop := -9223372036854775808 ≤ z ∧ z ≤ 9223372036854775807
instance (z : Int) : Decidable (inInt z) := by unfold inInt; exact inferInstance
theorem or_words (a x : Nat) (ha : a < 4294967296) (hx : x < 4294967296) : bits .or .u64 (a : Int) ((x : Int) * 4294967296) = ((a + 4294967296 * x : Nat) : Int) := by
 have e : ((x : Int) * 4294967296) = ((4294967296 * x : Nat) : Int) := by omega
 rw [e, u64_or_nat _ _ (by omega) (by omega)]; have := Nat.two_pow_add_eq_or_of_lt (i := 32) ha x; rw [Nat.add_comm, Nat.or_comm]; congr 1
 exact this.symm
end Go.Proofs.YtddbmckbankmeaaGreat.Ex
