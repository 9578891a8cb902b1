/- Part 5 of the texts behind this claim. -/
import Derived.Deep.RegionWith
import Derived.BigRegion
import Derived.Test.YtdfhhceboacdcaaGreatDoorGk3
import Derived.Test.YtdfhhceboacdcaaGreatDoorGk4
set_option linter.unusedVariables false
namespace Go.Proofs.YtdfhhceboacdcaaGreatDoor
open Go.RowKit
set_option maxRecDepth 100000 in
theorem mul_big (N : Nat) (H : MulOk N) (A1 : Option Addr) (c1 m : Nat) (A2 : Option Addr) (c2 n : Nat) (w : World) (h1 : NN w A1 c1 m) (h2 : NN w A2 c2 n) (l1 : ln m ≤ 268435456) (l2 : ln n ≤ 268435456) (hm : 40 ≤ ln m) (hn : 40 ≤ ln n) (hN : ln m + ln n ≤ N + 1) :
  Calls Tryz.prog 45 #[.slice A1 (ln m) c1, .slice A2 (ln n) c2] w (RetN (m * n) w) := by
 by_cases hlt : ln m < ln n
 ·have c := split_calls N H A2 c2 n A1 c1 m w h2 h1 l2 (by omega) hm (by omega); rw [Nat.mul_comm n m] at c; have HC := Hd.mk c; clear c h1 h2; go_enter Tryz.func45, Tryz.ntmps45
  go_wp2_with (first | (go_at_call 77; refine HC.out.mono ?_; rintro e w1 ⟨A, c, rfl, hN1, hB⟩; have HN := Hd.mk hN1; have HB := Hd.mk hB; clear hN1 hB))
  go_ret
  exact ⟨A, c, rfl, HN.out, HB.out⟩
 have c := split_calls N H A1 c1 m A2 c2 n w h1 h2 l1 (by omega) hn (by omega); have HC := Hd.mk c; clear c h1 h2; go_enter Tryz.func45, Tryz.ntmps45
 go_wp2_with (first | (go_at_call 77; refine HC.out.mono ?_; rintro e w1 ⟨A, c, rfl, hN1, hB⟩; have HN := Hd.mk hN1; have HB := Hd.mk hB; clear hN1 hB))
 go_ret
 exact ⟨A, c, rfl, HN.out, HB.out⟩
theorem mul_ok : ∀ N, MulOk N := by
 intro N
 induction N with
 | zero =>
  intro A1 c1 m A2 c2 n w h1 h2 l1 l2 hN; exact mul_school A1 c1 m A2 c2 n w h1 h2 (by omega) (by omega) (by omega)
 | succ N ih =>
  intro A1 c1 m A2 c2 n w h1 h2 l1 l2 hN; by_cases hs : ln m < 40 ∨ ln n < 40
  ·exact mul_school A1 c1 m A2 c2 n w h1 h2 (by omega) (by omega) hs
  exact mul_big N ih A1 c1 m A2 c2 n w h1 h2 l1 l2 (by omega) (by omega) hN
theorem mul_calls (A1 : Option Addr) (c1 m : Nat) (A2 : Option Addr) (c2 n : Nat) (w : World) (h1 : NN w A1 c1 m) (h2 : NN w A2 c2 n) (l1 : ln m ≤ 268435456) (l2 : ln n ≤ 268435456) :
  Calls Tryz.prog 45 #[.slice A1 (ln m) c1, .slice A2 (ln n) c2] w (RetN (m * n) w) := mul_ok _ A1 c1 m A2 c2 n w h1 h2 l1 l2 (Nat.le_refl _)
set_option maxRecDepth 100000 in
theorem clone_calls (A : Option Addr) (c n : Nat) (w : World) (h : NN w A c n) (l1 : ln n ≤ 1073741824) :
  Calls Tryz.prog 74 #[.slice A (ln n) c] w (RetN n w) := by
 rcases A with _ | ad
 ·have heq := fun W => Lib.run_eql_slice_nil (P := Tryz.prog) W 22 46 none (ln n) c 0 0 Tryz.underlying22
  have h0 : n = 0 := by
   by_cases h0 : 0 < ln n
   ·obtain ⟨ad, e, _⟩ := h.1 h0; cases e
   exact ln_eq_zero.1 (by omega)
  subst h0; clear h; go_enter Tryz.func74, Tryz.ntmps74
  go_wp2
  go_ret
  exact ⟨none, 0, by rw [ln_zero]; rfl, NN.nil _ _ _ (by omega), Below.refl _ _⟩
 have heq := fun W => Lib.run_eql_slice_nil (P := Tryz.prog) W 22 46 (some ad) (ln n) c 0 0 Tryz.underlying22
 have hown : (w.alloc (.cells #[] 46)).ownsRow w.heap.size 46 1 (.slice (some ⟨w.heap.size, 0, none⟩) 0 0) 0 (cells []) := own_made (heap_alloc_new w (.cells #[] 46)) (ds := []) (c := 0) (n := 0) rfl (Nat.le_refl _) (by omega) (Nat.le_refl _); have hrd := (h.1.to (below_alloc (Below.refl _ _) (.cells #[] 46))).reads; have HO := Hd.mk hown; have HR := Hd.mk hrd; obtain ⟨i0, hi, hz0, hz1, hz2⟩ := info_parts Tryz.info_word; clear h hown hrd; go_enter Tryz.func74, Tryz.ntmps74
 go_wp2_with (first | (at_builtin; refine wpList_append_any _ rfl (.tmp 5) (.tmp 6) 22 rfl w.heap.size 46 i0 (.int .u32 0) 1 4 Tryz.underlying22 hi hz0 hz1 hz2 rfl (by decide) (.slice (some ⟨w.heap.size, 0, none⟩) 0 0) 0 (cells []) rfl HO.out _ (some ad) (ln n) c (cells (dig n)) rfl HR.out (cells_one _) (by unfold maxLen; omega) (by omega) (by simp) ?_; intro v1 w1 hown1 hg1 hat1))
 rw [Nat.zero_add, show cells [] ++ cells (dig n) = cells (dig n) from rfl] at hown1; obtain ⟨A, c, rfl, hrn, hc1, hc2⟩ := own_slice (xs := dig n) hown1; go_wp2
 go_ret
 exact ⟨A, c, rfl, ⟨hrn, hc1, hc2⟩, (below_alloc (Below.refl w.heap.size w) _).grown hg1 (by simp) (fun j e => by cases e; exact Nat.le_refl _)⟩
theorem of_calls (b : Bool) (A : Option Addr) (n c : Nat) (w : World) :
  Calls Tryz.prog 26 #[.agg #[.bool b, .slice A n c]] w fun e w' => e = .returned (.agg #[.bool b, .slice A n c]) ∧ Below w.heap.size w w' := by
 go_enter Tryz.func26, Tryz.ntmps26
 go_wp2_with fail
 exact bodyPost_ret (v := .agg #[.bool b, .slice A n c]) (by simp [results, Tryz.results26, go_sem]) rfl ⟨rfl, by repeat (first | exact HB.out | exact Below.refl _ _ | refine below_alloc ?_ _ | refine below_drewN ?_ _ | refine below_drew ?_ | refine below_set ?_ (by first | exact Nat.le_refl _ | omega | (simp; done) | (simp; omega)) _)⟩
set_option maxRecDepth 100000 in
theorem value_calls (z : Int) (A : Option Addr) (c : Nat) (w : World) (h : NN w A c z.natAbs) (l1 : ln z.natAbs ≤ 1073741824) :
  Calls Tryz.prog 40 #[.agg #[.bool (decide (z < 0)), .slice A (ln z.natAbs) c]] w (RetZ z w) := by
 have HX := Hd.mk h; by_cases h0 : z = 0
 ·subst h0; clear h; rw [show ln (Int.natAbs 0) = 0 from ln_zero, show decide ((0 : Int) < 0) = false from rfl]; have hd0 : decide ((0 : Nat) = 0) = true := rfl; go_enter Tryz.func40, Tryz.ntmps40
  go_wp2_with (first | (go_at_call 65; refine (zero_calls _ _ _ _ (by omega)).mono ?_; rintro e w' ⟨rfl, rfl⟩))
  exact bodyPost_ret (v := .agg #[.bool false, .slice none 0 0]) (by simp [results, Tryz.results40, go_sem]) rfl ⟨none, 0, by rw [show ln (Int.natAbs 0) = 0 from ln_zero]; rfl, NN.nil _ _ _ (by omega), by repeat (first | exact HB.out | exact Below.refl _ _ | refine below_alloc ?_ _ | refine below_drewN ?_ _ | refine below_drew ?_ | refine below_set ?_ (by first | exact Nat.le_refl _ | omega | (simp; done) | (simp; omega)) _)⟩
 have hl : ln z.natAbs ≠ 0 := fun h => h0 (by have := ln_eq_zero.1 h; omega)
 have hd0 : decide (ln z.natAbs = 0) = false := decide_eq_false hl; clear h; obtain ⟨b, hb⟩ : ∃ b, b = decide (z < 0) := ⟨_, rfl⟩; rw [← hb]; have HBB := Hd.mk hb; clear hb; go_enter Tryz.func40, Tryz.ntmps40
 go_wp2_with (first | (go_at_call 65; refine (zero_calls _ _ _ _ (by omega)).mono ?_; rintro e w' ⟨rfl, rfl⟩))
 go_region_held3 (fun w' => w'.cell? ⟨w.heap.size, 0, none⟩ = some (.bool b) ∧ w'.cell? ⟨w.heap.size, 1, none⟩ = some (.slice A (ln z.natAbs) c))
  (first | go_keep | (go_split_ands; exact ⟨(hc1 _ _ (by simp; omega)).trans (by simp), (hc1 _ _ (by simp; omega)).trans (by simp)⟩))
  (first | (go_at_call 74; refine (clone_calls _ _ _ _ (HX.out.to (by repeat (first | exact HB.out | exact Below.refl _ _ | refine below_alloc ?_ _ | refine below_drewN ?_ _ | refine below_drew ?_ | refine below_set ?_ (by first | exact Nat.le_refl _ | omega | (simp; done) | (simp; omega)) _))) l1).mono ?_; rintro e w1 ⟨A1, c1, rfl, hn1, hb1⟩; obtain ⟨hc1, hf1⟩ := bcell hb1; have HN1 := Hd.mk hn1; have HB1 := Hd.mk hb1; clear hn1 hb1))
 go_wp2_with fail
 have HB : Hd (Below w.heap.size w w1) := ⟨bel_then (by repeat (first | exact HB.out | exact Below.refl _ _ | refine below_alloc ?_ _ | refine below_drewN ?_ _ | refine below_drew ?_ | refine below_set ?_ (by first | exact Nat.le_refl _ | omega | (simp; done) | (simp; omega)) _)) HB1.out⟩; have g0 : w1.cell? ⟨w.heap.size + 1, 0, none⟩ = some (.bool false) := (hc1 _ _ (by simp)).trans (by simp); have g1 : w1.cell? ⟨w.heap.size + 1, 1, none⟩ = some (.slice none 0 0) := (hc1 _ _ (by simp)).trans (by simp); obtain ⟨k0, k1, k2⟩ := two_set g0 g1 (.bool b) (.slice A1 (ln z.natAbs) c1); refine bodyPost_ret (v := .agg #[.bool b, .slice A1 (ln z.natAbs) c1]) (by simp [results, Tryz.results40, go_sem, k0, k1]) rfl ?_; exact ⟨A1, c1, by rw [HBB.out], (HN1.out.set_ g0 (by intro x; simp) _).set_ k2 (by intro x; simp) _, by repeat (first | exact HB.out | exact Below.refl _ _ | refine below_alloc ?_ _ | refine below_drewN ?_ _ | refine below_drew ?_ | refine below_set ?_ (by first | exact Nat.le_refl _ | omega | (simp; done) | (simp; omega)) _)⟩
set_option maxRecDepth 100000 in
theorem minus_calls (z : Int) (A : Option Addr) (c : Nat) (w : World) (h : NN w A c z.natAbs) :
  Calls Tryz.prog 59 #[.agg #[.bool (decide (z < 0)), .slice A (ln z.natAbs) c]] w fun e w' => e = .returned (.agg #[.bool (decide (-z < 0)), .slice A (ln z.natAbs) c]) ∧ Below w.heap.size w w' := by
 have hl := Nat.le_trans h.2.1 h.2.2; clear h; by_cases hz : z < 0
 ·have h1 : decide (z < 0) = true := decide_eq_true hz; have h2 : decide (-z < 0) = false := decide_eq_false (by omega); have hd0 : decide (ln z.natAbs = 0) = false := decide_eq_false (fun h => by have := ln_eq_zero.1 h; omega); rw [h1, h2]; clear hz h1 h2; go_enter Tryz.func59, Tryz.ntmps59
  go_wp2_with fail
  refine wp_still_tail 12 (by kernel_rfl) (by kernel_rfl) (fun w2 hw2 => ?_); simp only [List.take_succ_cons, List.take_zero, List.drop_succ_cons, List.drop_zero]; have k0 : w2.cell? ⟨w.heap.size, 0, none⟩ = some (.bool true) := by rw [hw2]; simp
  have k1 : w2.cell? ⟨w.heap.size, 1, none⟩ = some (.slice A (ln z.natAbs) c) := by rw [hw2]; simp
  have k2 : w2.cell? ⟨w.heap.size + 1, 0, none⟩ = some (.bool false) := by rw [hw2]; simp
  have k3 : w2.cell? ⟨w.heap.size + 1, 1, none⟩ = some (.slice none 0 0) := by rw [hw2]; simp
  have f0 : w2.frozen? ⟨w.heap.size + 1, 0, none⟩ = false := by rw [hw2]; simp
  have f1 : w2.frozen? ⟨w.heap.size + 1, 1, none⟩ = false := by rw [hw2]; simp
  have HB : Hd (Below w.heap.size w w2) := ⟨by rw [hw2]; repeat (first | exact HB.out | exact Below.refl _ _ | refine below_alloc ?_ _ | refine below_drewN ?_ _ | refine below_drew ?_ | refine below_set ?_ (by first | exact Nat.le_refl _ | omega | (simp; done) | (simp; omega)) _)⟩; obtain ⟨j0, j1, j2⟩ := two_set k2 k3 (.bool false) (.slice A (ln z.natAbs) c); clear hw2; repeat (first | still_step | still_call (zero_is false A (ln z.natAbs) c w2 (by omega) hd0))
  refine wpStill_nil ?_; go_wp2_with fail
  exact bodyPost_ret (v := .agg #[.bool false, .slice A (ln z.natAbs) c]) (by simp [results, Tryz.results59, go_sem, j0, j1]) rfl ⟨rfl, by repeat (first | exact HB.out | exact Below.refl _ _ | refine below_alloc ?_ _ | refine below_drewN ?_ _ | refine below_drew ?_ | refine below_set ?_ (by first | exact Nat.le_refl _ | omega | (simp; done) | (simp; omega)) _)⟩
 have h1 : decide (z < 0) = false := decide_eq_false hz; rw [h1]; by_cases h0 : z = 0
 ·have h2 : decide (-z < 0) = false := decide_eq_false (by omega); have h3 : ln z.natAbs = 0 := ln_eq_zero.2 (by omega); rw [h2, h3]; have hd0 : decide ((0 : Nat) = 0) = true := rfl; clear hl hz h1 h2 h3 h0; go_enter Tryz.func59, Tryz.ntmps59
  go_wp2_with fail
  refine wp_still_tail 12 (by kernel_rfl) (by kernel_rfl) (fun w2 hw2 => ?_); simp only [List.take_succ_cons, List.take_zero, List.drop_succ_cons, List.drop_zero]; have k0 : w2.cell? ⟨w.heap.size, 0, none⟩ = some (.bool false) := by rw [hw2]; simp
  have k1 : w2.cell? ⟨w.heap.size, 1, none⟩ = some (.slice A (0) c) := by rw [hw2]; simp
  have k2 : w2.cell? ⟨w.heap.size + 1, 0, none⟩ = some (.bool false) := by rw [hw2]; simp
  have k3 : w2.cell? ⟨w.heap.size + 1, 1, none⟩ = some (.slice none 0 0) := by rw [hw2]; simp
  have f0 : w2.frozen? ⟨w.heap.size + 1, 0, none⟩ = false := by rw [hw2]; simp
  have f1 : w2.frozen? ⟨w.heap.size + 1, 1, none⟩ = false := by rw [hw2]; simp
  have HB : Hd (Below w.heap.size w w2) := ⟨by rw [hw2]; repeat (first | exact HB.out | exact Below.refl _ _ | refine below_alloc ?_ _ | refine below_drewN ?_ _ | refine below_drew ?_ | refine below_set ?_ (by first | exact Nat.le_refl _ | omega | (simp; done) | (simp; omega)) _)⟩; obtain ⟨j0, j1, j2⟩ := two_set k2 k3 (.bool false) (.slice A (0) c); clear hw2; repeat (first | still_step | still_call (zero_is true A (0) c w2 (by omega) hd0))
  refine wpStill_nil ?_; go_wp2_with fail
  exact bodyPost_ret (v := .agg #[.bool false, .slice A (0) c]) (by simp [results, Tryz.results59, go_sem, j0, j1]) rfl ⟨rfl, by repeat (first | exact HB.out | exact Below.refl _ _ | refine below_alloc ?_ _ | refine below_drewN ?_ _ | refine below_drew ?_ | refine below_set ?_ (by first | exact Nat.le_refl _ | omega | (simp; done) | (simp; omega)) _)⟩
 have h2 : decide (-z < 0) = true := decide_eq_true (by omega); have h3 : ln z.natAbs ≠ 0 := fun h => h0 (by have := ln_eq_zero.1 h; omega)
 rw [h2]; have hd0 : decide (ln z.natAbs = 0) = false := decide_eq_false h3; clear hz h1 h2 h3 h0; go_enter Tryz.func59, Tryz.ntmps59
 go_wp2_with fail
 refine wp_still_tail 12 (by kernel_rfl) (by kernel_rfl) (fun w2 hw2 => ?_); simp only [List.take_succ_cons, List.take_zero, List.drop_succ_cons, List.drop_zero]; have k0 : w2.cell? ⟨w.heap.size, 0, none⟩ = some (.bool false) := by rw [hw2]; simp
 have k1 : w2.cell? ⟨w.heap.size, 1, none⟩ = some (.slice A (ln z.natAbs) c) := by rw [hw2]; simp
 have k2 : w2.cell? ⟨w.heap.size + 1, 0, none⟩ = some (.bool false) := by rw [hw2]; simp
 have k3 : w2.cell? ⟨w.heap.size + 1, 1, none⟩ = some (.slice none 0 0) := by rw [hw2]; simp
 have f0 : w2.frozen? ⟨w.heap.size + 1, 0, none⟩ = false := by rw [hw2]; simp
 have f1 : w2.frozen? ⟨w.heap.size + 1, 1, none⟩ = false := by rw [hw2]; simp
 have HB : Hd (Below w.heap.size w w2) := ⟨by rw [hw2]; repeat (first | exact HB.out | exact Below.refl _ _ | refine below_alloc ?_ _ | refine below_drewN ?_ _ | refine below_drew ?_ | refine below_set ?_ (by first | exact Nat.le_refl _ | omega | (simp; done) | (simp; omega)) _)⟩; obtain ⟨j0, j1, j2⟩ := two_set k2 k3 (.bool true) (.slice A (ln z.natAbs) c); clear hw2; repeat (first | still_step | still_call (zero_is false A (ln z.natAbs) c w2 (by omega) hd0))
 refine wpStill_nil ?_; go_wp2_with fail
 exact bodyPost_ret (v := .agg #[.bool true, .slice A (ln z.natAbs) c]) (by simp [results, Tryz.results59, go_sem, j0, j1]) rfl ⟨rfl, by repeat (first | exact HB.out | exact Below.refl _ _ | refine below_alloc ?_ _ | refine below_drewN ?_ _ | refine below_drew ?_ | refine below_set ?_ (by first | exact Nat.le_refl _ | omega | (simp; done) | (simp; omega)) _)⟩
set_option maxHeartbeats 1000000 in
set_option maxRecDepth 100000 in
theorem wmul_calls (x y : Int) (A1 : Option Addr) (c1 : Nat) (A2 : Option Addr) (c2 : Nat) (w : World) (h1 : NN w A1 c1 x.natAbs) (h2 : NN w A2 c2 y.natAbs) (l1 : ln x.natAbs ≤ 268435456) (l2 : ln y.natAbs ≤ 268435456) :
  Calls Tryz.prog 58 #[.agg #[.bool (decide (x < 0)), .slice A1 (ln x.natAbs) c1], .agg #[.bool (decide (y < 0)), .slice A2 (ln y.natAbs) c2]] w (RetZ (x * y) w) := by
 have H1 := Hd.mk h1; have H2 := Hd.mk h2; clear h1 h2; have HZ := Hd.mk (Int.natAbs_mul x y); obtain ⟨b1, hb1⟩ : ∃ b, b = decide (x < 0) := ⟨_, rfl⟩; obtain ⟨b2, hb2⟩ : ∃ b, b = decide (y < 0) := ⟨_, rfl⟩; rw [← hb1, ← hb2]; by_cases h0 : x * y = 0
 ·have HS : Hd (decide (x * y < 0) = false) := ⟨decide_eq_false (by omega)⟩; have hd0 : decide (ln (x.natAbs * y.natAbs) = 0) = true := decide_eq_true (ln_eq_zero.2 (by rw [← HZ.out, h0]; rfl)); clear hb1 hb2 h0; rcases b1 with _ | _ <;> rcases b2 with _ | _
  all_goals
   go_enter Tryz.func58, Tryz.ntmps58
   go_wp2_with (first | (go_at_call 45; refine (mul_calls _ _ _ _ _ _ _ (H1.out.to (by repeat (first | exact HB.out | exact Below.refl _ _ | refine below_alloc ?_ _ | refine below_drewN ?_ _ | refine below_drew ?_ | refine below_set ?_ (by first | exact Nat.le_refl _ | omega | (simp; done) | (simp; omega)) _))) (H2.out.to (by repeat (first | exact HB.out | exact Below.refl _ _ | refine below_alloc ?_ _ | refine below_drewN ?_ _ | refine below_drew ?_ | refine below_set ?_ (by first | exact Nat.le_refl _ | omega | (simp; done) | (simp; omega)) _))) l1 l2).mono ?_; rintro e w1 ⟨A3, c3, rfl, hn1, hb1⟩; obtain ⟨hc1, hf1⟩ := bcell hb1; have hl3 := Nat.le_trans hn1.2.1 hn1.2.2; have HN1 := Hd.mk hn1; have HB : Hd (Below w.heap.size w w1) := ⟨bel_then (by repeat (first | exact HB.out | exact Below.refl _ _ | refine below_alloc ?_ _ | refine below_drewN ?_ _ | refine below_drew ?_ | refine below_set ?_ (by first | exact Nat.le_refl _ | omega | (simp; done) | (simp; omega)) _)) hb1⟩; have hz1 : w.heap.size + 1 + 1 < w1.heap.size := (by have := hb1.size; simp at this; omega); clear hn1 hb1) | (go_at_call 65; refine (zero_eq true _ _ _ _ hl3 hd0).mono ?_; rintro e w' ⟨rfl, rfl⟩))
   have g0 : w1.cell? ⟨w.heap.size + 1 + 1, 0, none⟩ = some (.bool false) := (hc1 _ _ (by simp)).trans ((blk_third w _ _ [.bool false, .slice none 0 0] 51).cell 0); have g1 : w1.cell? ⟨w.heap.size + 1 + 1, 1, none⟩ = some (.slice none 0 0) := (hc1 _ _ (by simp)).trans ((blk_third w _ _ [.bool false, .slice none 0 0] 51).cell 1); obtain ⟨k0, k1, k2⟩ := two_set g0 g1 (.bool false) (.slice A3 (ln (x.natAbs * y.natAbs)) c3); refine bodyPost_ret (v := .agg #[.bool false, .slice A3 (ln (x.natAbs * y.natAbs)) c3]) (by simp [results, Tryz.results58, go_sem, k0, k1]) rfl ?_; refine ⟨A3, c3, by first | (rw [HZ.out, HS.out]; done) | (rw [HZ.out, HS.out]; rfl), ?_, by repeat (first | exact HB.out | exact Below.refl _ _ | refine below_alloc ?_ _ | refine below_drewN ?_ _ | refine below_drew ?_ | refine below_set ?_ (by first | exact Nat.le_refl _ | omega | (simp; done) | (simp; omega)) _)⟩; rw [HZ.out]; exact (HN1.out.set_ g0 (by intro t; simp) _).set_ k2 (by intro t; simp) _
 have hd0 : decide (ln (x.natAbs * y.natAbs) = 0) = false := decide_eq_false (fun h => h0 (by have := ln_eq_zero.1 h; rw [← HZ.out] at this; omega)); have hx0 : x ≠ 0 := fun h => h0 (by rw [h]; simp)
 have hy0 : y ≠ 0 := fun h => h0 (by rw [h]; simp)
 have hS : decide (x * y < 0) = (b1 != b2) := by
  rw [hb1, hb2]; rcases Int.lt_or_gt_of_ne hx0 with hx | hx <;> rcases Int.lt_or_gt_of_ne hy0 with hy | hy
  ·have := Int.mul_pos_of_neg_of_neg hx hy; simp [hx, hy]; omega
  ·have := Int.mul_neg_of_neg_of_pos hx hy; have hy' : ¬ y < 0 := by omega
   simp [hx, hy', this]
  ·have := Int.mul_neg_of_pos_of_neg hx hy; have hx' : ¬ x < 0 := by omega
   simp [hx', hy, this]
  have := Int.mul_pos hx hy; have hx' : ¬ x < 0 := by omega
  have hy' : ¬ y < 0 := by omega
  simp [hx', hy']; omega
 have HS := Hd.mk hS; clear hb1 hb2 h0 hx0 hy0 hS; rcases b1 with _ | _ <;> rcases b2 with _ | _
 ·go_enter Tryz.func58, Tryz.ntmps58
  go_wp2_with (first | (go_at_call 45; refine (mul_calls _ _ _ _ _ _ _ (H1.out.to (by repeat (first | exact HB.out | exact Below.refl _ _ | refine below_alloc ?_ _ | refine below_drewN ?_ _ | refine below_drew ?_ | refine below_set ?_ (by first | exact Nat.le_refl _ | omega | (simp; done) | (simp; omega)) _))) (H2.out.to (by repeat (first | exact HB.out | exact Below.refl _ _ | refine below_alloc ?_ _ | refine below_drewN ?_ _ | refine below_drew ?_ | refine below_set ?_ (by first | exact Nat.le_refl _ | omega | (simp; done) | (simp; omega)) _))) l1 l2).mono ?_; rintro e w1 ⟨A3, c3, rfl, hn1, hb1⟩; obtain ⟨hc1, hf1⟩ := bcell hb1; have hl3 := Nat.le_trans hn1.2.1 hn1.2.2; have HN1 := Hd.mk hn1; have HB : Hd (Below w.heap.size w w1) := ⟨bel_then (by repeat (first | exact HB.out | exact Below.refl _ _ | refine below_alloc ?_ _ | refine below_drewN ?_ _ | refine below_drew ?_ | refine below_set ?_ (by first | exact Nat.le_refl _ | omega | (simp; done) | (simp; omega)) _)) hb1⟩; have hz1 : w.heap.size + 1 + 1 < w1.heap.size := (by have := hb1.size; simp at this; omega); clear hn1 hb1) | (go_at_call 65; refine (zero_eq false _ _ _ _ hl3 hd0).mono ?_; rintro e w' ⟨rfl, rfl⟩))
  have g0 : w1.cell? ⟨w.heap.size + 1 + 1, 0, none⟩ = some (.bool false) := (hc1 _ _ (by simp)).trans ((blk_third w _ _ [.bool false, .slice none 0 0] 51).cell 0); have g1 : w1.cell? ⟨w.heap.size + 1 + 1, 1, none⟩ = some (.slice none 0 0) := (hc1 _ _ (by simp)).trans ((blk_third w _ _ [.bool false, .slice none 0 0] 51).cell 1); obtain ⟨k0, k1, k2⟩ := two_set g0 g1 (.bool false) (.slice A3 (ln (x.natAbs * y.natAbs)) c3); refine bodyPost_ret (v := .agg #[.bool false, .slice A3 (ln (x.natAbs * y.natAbs)) c3]) (by simp [results, Tryz.results58, go_sem, k0, k1]) rfl ?_; refine ⟨A3, c3, by first | (rw [HZ.out, HS.out]; done) | (rw [HZ.out, HS.out]; rfl), ?_, by repeat (first | exact HB.out | exact Below.refl _ _ | refine below_alloc ?_ _ | refine below_drewN ?_ _ | refine below_drew ?_ | refine below_set ?_ (by first | exact Nat.le_refl _ | omega | (simp; done) | (simp; omega)) _)⟩; rw [HZ.out]; exact (HN1.out.set_ g0 (by intro t; simp) _).set_ k2 (by intro t; simp) _
 ·go_enter Tryz.func58, Tryz.ntmps58
  go_wp2_with (first | (go_at_call 45; refine (mul_calls _ _ _ _ _ _ _ (H1.out.to (by repeat (first | exact HB.out | exact Below.refl _ _ | refine below_alloc ?_ _ | refine below_drewN ?_ _ | refine below_drew ?_ | refine below_set ?_ (by first | exact Nat.le_refl _ | omega | (simp; done) | (simp; omega)) _))) (H2.out.to (by repeat (first | exact HB.out | exact Below.refl _ _ | refine below_alloc ?_ _ | refine below_drewN ?_ _ | refine below_drew ?_ | refine below_set ?_ (by first | exact Nat.le_refl _ | omega | (simp; done) | (simp; omega)) _))) l1 l2).mono ?_; rintro e w1 ⟨A3, c3, rfl, hn1, hb1⟩; obtain ⟨hc1, hf1⟩ := bcell hb1; have hl3 := Nat.le_trans hn1.2.1 hn1.2.2; have HN1 := Hd.mk hn1; have HB : Hd (Below w.heap.size w w1) := ⟨bel_then (by repeat (first | exact HB.out | exact Below.refl _ _ | refine below_alloc ?_ _ | refine below_drewN ?_ _ | refine below_drew ?_ | refine below_set ?_ (by first | exact Nat.le_refl _ | omega | (simp; done) | (simp; omega)) _)) hb1⟩; have hz1 : w.heap.size + 1 + 1 < w1.heap.size := (by have := hb1.size; simp at this; omega); clear hn1 hb1) | (go_at_call 65; refine (zero_eq false _ _ _ _ hl3 hd0).mono ?_; rintro e w' ⟨rfl, rfl⟩))
  have g0 : w1.cell? ⟨w.heap.size + 1 + 1, 0, none⟩ = some (.bool false) := (hc1 _ _ (by simp)).trans ((blk_third w _ _ [.bool false, .slice none 0 0] 51).cell 0); have g1 : w1.cell? ⟨w.heap.size + 1 + 1, 1, none⟩ = some (.slice none 0 0) := (hc1 _ _ (by simp)).trans ((blk_third w _ _ [.bool false, .slice none 0 0] 51).cell 1); obtain ⟨k0, k1, k2⟩ := two_set g0 g1 (.bool true) (.slice A3 (ln (x.natAbs * y.natAbs)) c3); refine bodyPost_ret (v := .agg #[.bool true, .slice A3 (ln (x.natAbs * y.natAbs)) c3]) (by simp [results, Tryz.results58, go_sem, k0, k1]) rfl ?_; refine ⟨A3, c3, by first | (rw [HZ.out, HS.out]; done) | (rw [HZ.out, HS.out]; rfl), ?_, by repeat (first | exact HB.out | exact Below.refl _ _ | refine below_alloc ?_ _ | refine below_drewN ?_ _ | refine below_drew ?_ | refine below_set ?_ (by first | exact Nat.le_refl _ | omega | (simp; done) | (simp; omega)) _)⟩; rw [HZ.out]; exact (HN1.out.set_ g0 (by intro t; simp) _).set_ k2 (by intro t; simp) _
 ·go_enter Tryz.func58, Tryz.ntmps58
  go_wp2_with (first | (go_at_call 45; refine (mul_calls _ _ _ _ _ _ _ (H1.out.to (by repeat (first | exact HB.out | exact Below.refl _ _ | refine below_alloc ?_ _ | refine below_drewN ?_ _ | refine below_drew ?_ | refine below_set ?_ (by first | exact Nat.le_refl _ | omega | (simp; done) | (simp; omega)) _))) (H2.out.to (by repeat (first | exact HB.out | exact Below.refl _ _ | refine below_alloc ?_ _ | refine below_drewN ?_ _ | refine below_drew ?_ | refine below_set ?_ (by first | exact Nat.le_refl _ | omega | (simp; done) | (simp; omega)) _))) l1 l2).mono ?_; rintro e w1 ⟨A3, c3, rfl, hn1, hb1⟩; obtain ⟨hc1, hf1⟩ := bcell hb1; have hl3 := Nat.le_trans hn1.2.1 hn1.2.2; have HN1 := Hd.mk hn1; have HB : Hd (Below w.heap.size w w1) := ⟨bel_then (by repeat (first | exact HB.out | exact Below.refl _ _ | refine below_alloc ?_ _ | refine below_drewN ?_ _ | refine below_drew ?_ | refine below_set ?_ (by first | exact Nat.le_refl _ | omega | (simp; done) | (simp; omega)) _)) hb1⟩; have hz1 : w.heap.size + 1 + 1 < w1.heap.size := (by have := hb1.size; simp at this; omega); clear hn1 hb1) | (go_at_call 65; refine (zero_eq false _ _ _ _ hl3 hd0).mono ?_; rintro e w' ⟨rfl, rfl⟩))
  have g0 : w1.cell? ⟨w.heap.size + 1 + 1, 0, none⟩ = some (.bool false) := (hc1 _ _ (by simp)).trans ((blk_third w _ _ [.bool false, .slice none 0 0] 51).cell 0); have g1 : w1.cell? ⟨w.heap.size + 1 + 1, 1, none⟩ = some (.slice none 0 0) := (hc1 _ _ (by simp)).trans ((blk_third w _ _ [.bool false, .slice none 0 0] 51).cell 1); obtain ⟨k0, k1, k2⟩ := two_set g0 g1 (.bool true) (.slice A3 (ln (x.natAbs * y.natAbs)) c3); refine bodyPost_ret (v := .agg #[.bool true, .slice A3 (ln (x.natAbs * y.natAbs)) c3]) (by simp [results, Tryz.results58, go_sem, k0, k1]) rfl ?_; refine ⟨A3, c3, by first | (rw [HZ.out, HS.out]; done) | (rw [HZ.out, HS.out]; rfl), ?_, by repeat (first | exact HB.out | exact Below.refl _ _ | refine below_alloc ?_ _ | refine below_drewN ?_ _ | refine below_drew ?_ | refine below_set ?_ (by first | exact Nat.le_refl _ | omega | (simp; done) | (simp; omega)) _)⟩; rw [HZ.out]; exact (HN1.out.set_ g0 (by intro t; simp) _).set_ k2 (by intro t; simp) _
 go_enter Tryz.func58, Tryz.ntmps58
 go_wp2_with (first | (go_at_call 45; refine (mul_calls _ _ _ _ _ _ _ (H1.out.to (by repeat (first | exact HB.out | exact Below.refl _ _ | refine below_alloc ?_ _ | refine below_drewN ?_ _ | refine below_drew ?_ | refine below_set ?_ (by first | exact Nat.le_refl _ | omega | (simp; done) | (simp; omega)) _))) (H2.out.to (by repeat (first | exact HB.out | exact Below.refl _ _ | refine below_alloc ?_ _ | refine below_drewN ?_ _ | refine below_drew ?_ | refine below_set ?_ (by first | exact Nat.le_refl _ | omega | (simp; done) | (simp; omega)) _))) l1 l2).mono ?_; rintro e w1 ⟨A3, c3, rfl, hn1, hb1⟩; obtain ⟨hc1, hf1⟩ := bcell hb1; have hl3 := Nat.le_trans hn1.2.1 hn1.2.2; have HN1 := Hd.mk hn1; have HB : Hd (Below w.heap.size w w1) := ⟨bel_then (by repeat (first | exact HB.out | exact Below.refl _ _ | refine below_alloc ?_ _ | refine below_drewN ?_ _ | refine below_drew ?_ | refine below_set ?_ (by first | exact Nat.le_refl _ | omega | (simp; done) | (simp; omega)) _)) hb1⟩; have hz1 : w.heap.size + 1 + 1 < w1.heap.size := (by have := hb1.size; simp at this; omega); clear hn1 hb1) | (go_at_call 65; refine (zero_eq false _ _ _ _ hl3 hd0).mono ?_; rintro e w' ⟨rfl, rfl⟩))
 have g0 : w1.cell? ⟨w.heap.size + 1 + 1, 0, none⟩ = some (.bool false) := (hc1 _ _ (by simp)).trans ((blk_third w _ _ [.bool false, .slice none 0 0] 51).cell 0); have g1 : w1.cell? ⟨w.heap.size + 1 + 1, 1, none⟩ = some (.slice none 0 0) := (hc1 _ _ (by simp)).trans ((blk_third w _ _ [.bool false, .slice none 0 0] 51).cell 1); obtain ⟨k0, k1, k2⟩ := two_set g0 g1 (.bool false) (.slice A3 (ln (x.natAbs * y.natAbs)) c3); refine bodyPost_ret (v := .agg #[.bool false, .slice A3 (ln (x.natAbs * y.natAbs)) c3]) (by simp [results, Tryz.results58, go_sem, k0, k1]) rfl ?_; refine ⟨A3, c3, by first | (rw [HZ.out, HS.out]; done) | (rw [HZ.out, HS.out]; rfl), ?_, by repeat (first | exact HB.out | exact Below.refl _ _ | refine below_alloc ?_ _ | refine below_drewN ?_ _ | refine below_drew ?_ | refine below_set ?_ (by first | exact Nat.le_refl _ | omega | (simp; done) | (simp; omega)) _)⟩; rw [HZ.out]; exact (HN1.out.set_ g0 (by intro t; simp) _).set_ k2 (by intro t; simp) _
set_option maxRecDepth 100000 in
theorem fits_calls (z : Int) (A : Option Addr) (c : Nat) (w : World) (h : NN w A c z.natAbs) (l1 : ln z.natAbs ≤ 1073741824) :
  Calls Tryz.prog 83 #[.agg #[.bool (decide (z < 0)), .slice A (ln z.natAbs) c]] w (RetZE (fitz z) (fite z) w) := by
 have H1 := Hd.mk h; clear h; by_cases hf : ln z.natAbs ≤ 256
 ·have e1 : fitz z = z := if_pos hf; have e2 : fite z = 0 := if_pos hf; rw [e1, e2]; clear e1 e2; obtain ⟨b, hb⟩ : ∃ b, b = decide (z < 0) := ⟨_, rfl⟩; have HV := Hd.mk (fun W hW => value_calls z A c W (H1.out.to hW) l1); rw [← hb] at HV ⊢; have HBB := Hd.mk hb; clear hb; go_enter Tryz.func83, Tryz.ntmps83
  go_wp2_with (first | (go_at_call 40; refine (HV.out _ (by repeat (first | exact HB.out | exact Below.refl _ _ | refine below_alloc ?_ _ | refine below_drewN ?_ _ | refine below_drew ?_ | refine below_set ?_ (by first | exact Nat.le_refl _ | omega | (simp; done) | (simp; omega)) _))).mono ?_; rintro e w1 ⟨A3, c3, rfl, hn1, hb1⟩; rw [← HBB.out]; obtain ⟨hc1, hf1⟩ := bcell hb1; have hz1 : w.heap.size + 1 < w1.heap.size := (by have := hb1.size; simp at this; omega); have HN1 := Hd.mk hn1; have HB : Hd (Below w.heap.size w w1) := ⟨bel_then (by repeat (first | exact HB.out | exact Below.refl _ _ | refine below_alloc ?_ _ | refine below_drewN ?_ _ | refine below_drew ?_ | refine below_set ?_ (by first | exact Nat.le_refl _ | omega | (simp; done) | (simp; omega)) _)) hb1⟩; clear hn1 hb1))
  have g0 : w1.cell? ⟨w.heap.size + 1, 0, none⟩ = some (.bool false) := (hc1 _ _ (by simp)).trans ((blk_second w _ [.bool false, .slice none 0 0] 24).cell 0); have g1 : w1.cell? ⟨w.heap.size + 1, 1, none⟩ = some (.slice none 0 0) := (hc1 _ _ (by simp)).trans ((blk_second w _ [.bool false, .slice none 0 0] 24).cell 1); obtain ⟨k0, k1, k2⟩ := two_set g0 g1 (.bool b) (.slice A3 (ln z.natAbs) c3); refine bodyPost_ret (v := .tuple #[.agg #[.bool b, .slice A3 (ln z.natAbs) c3], .int .i64 0]) (by simp [results, Tryz.results83, go_sem, k0, k1]) rfl ?_; exact ⟨A3, c3, by rw [HBB.out], (HN1.out.set_ g0 (by intro t; simp) _).set_ k2 (by intro t; simp) _, by repeat (first | exact HB.out | exact Below.refl _ _ | refine below_alloc ?_ _ | refine below_drewN ?_ _ | refine below_drew ?_ | refine below_set ?_ (by first | exact Nat.le_refl _ | omega | (simp; done) | (simp; omega)) _)⟩
 have e1 : fitz z = 0 := if_neg hf; have e2 : fite z = 5 := if_neg hf; rw [e1, e2]; obtain ⟨b, hb⟩ : ∃ b, b = decide (z < 0) := ⟨_, rfl⟩; rw [← hb]; clear e1 e2 hb; have hf' : (256 : Int) < (ln z.natAbs : Int) := by omega
 go_enter Tryz.func83, Tryz.ntmps83
 go_wp2_with fail
 refine bodyPost_ret (v := .tuple #[.agg #[.bool false, .slice none 0 0], .int .i64 5]) (by simp [results, Tryz.results83, go_sem]) rfl ?_; exact ⟨none, 0, by rw [show ln (Int.natAbs 0) = 0 from ln_zero]; rfl, NN.nil _ _ _ (by omega), by repeat (first | exact HB.out | exact Below.refl _ _ | refine below_alloc ?_ _ | refine below_drewN ?_ _ | refine below_drew ?_ | refine below_set ?_ (by first | exact Nat.le_refl _ | omega | (simp; done) | (simp; omega)) _)⟩
structure Raw where
 neg : Bool
 A : Option Addr
 c : Nat
 xs : List Nat
def Raw.ok (r : Raw) : Bool := decide (r.xs.length ≤ 256) && (!(decide (r.xs.length = 0) && r.neg)) && (!(decide (0 < r.xs.length) && decide (r.xs.getD (r.xs.length - 1) 0 = 0)))
def Raw.at_ (r : Raw) (w : World) : Prop := RN w r.A r.xs ∧ Dg r.xs ∧ r.xs.length ≤ r.c ∧ r.c ≤ 9223372036854775807
theorem Raw.at_to {r : Raw} {w w' : World} (h : r.at_ w) (hb : Below w.heap.size w w') : r.at_ w' := ⟨h.1.to hb, h.2⟩
def RawsAt (rs : List Raw) (g : Nat) (w : World) : Prop := ∀ i r, rs[i]? = some r → w.cell? ⟨g, i * 2, none⟩ = some (.bool r.neg) ∧ w.cell? ⟨g, i * 2 + 1, none⟩ = some (.slice r.A r.xs.length r.c) ∧ r.at_ w
theorem RawsAt.to {rs : List Raw} {g : Nat} {w w' : World} (h : RawsAt rs g w) (hb : Below w.heap.size w w') : RawsAt rs g w' := fun i r hr => by
 obtain ⟨a, b, c⟩ := h i r hr; exact ⟨(hb.cell (World.block_lt_of_cell? w _ a)).trans a, (hb.cell (World.block_lt_of_cell? w _ b)).trans b, Raw.at_to c hb⟩
theorem all_no {rs : List Raw} {k : Nat} {r : Raw} (h : rs[k]? = some r) (hr : r.ok = false) : false = rs.all Raw.ok := by
 symm
 rw [List.all_eq_false]; exact ⟨r, List.mem_of_getElem? h, by simp [hr]⟩
theorem all_yes {rs : List Raw} {k : Nat} {r : Raw} (h : rs[k]? = some r) (hr : r.ok = true) (ha : (rs.take k).all Raw.ok = true) : (rs.take (k + 1)).all Raw.ok = true := by
 rw [List.take_add_one, h, List.all_append, ha]; simp [hr]
set_option maxHeartbeats 1000000 in
set_option maxRecDepth 100000 in
theorem valid_calls (rs : List Raw) (g n : Nat) (w : World) (h : RawsAt rs g w) (hn : rs.length = n) (hn2 : n ≤ 2) :
  Calls Tryz.prog 24 #[.slice (some ⟨g, 0, none⟩) n n] w fun e w' => e = .returned (.bool (rs.all Raw.ok)) ∧ Below w.heap.size w w' := by
 have H := Hd.mk h; have HN := Hd.mk hn; clear h hn; go_enter Tryz.func24, Tryz.ntmps24
 go_wp2
 go_loopw [8] (fun s wr => ∃ k : Nat, k ≤ n ∧ s = .int .i64 k ∧ (rs.take k).all Raw.ok = true ∧ Below w.heap.size w wr) (fun s _ => n - (intOf s).toNat)
 case atStart => exact ⟨0, Nat.zero_le _, rfl, rfl, Below.refl _ _⟩
 case round =>
  obtain ⟨k, hk, rfl, hall, hbel⟩ := hrel; have HA := Hd.mk hall; have HB := Hd.mk hbel; clear hall hbel; by_cases hlt : k < n
  ·obtain ⟨r, hr⟩ : ∃ r, rs[k]? = some r := ⟨_, List.getElem?_eq_getElem (by have := HN.out; omega)⟩; obtain ⟨hc0, hc1, hat⟩ := (H.out.to HB.out) k r hr; have HR := Hd.mk hr; clear hr; obtain ⟨neg, A, c, xs⟩ := r; obtain ⟨hrn, hdg, hlc, hcm⟩ := hat; simp only at hc0 hc1 hrn hdg hlc hcm; have HRN := Hd.mk hrn; have HDG := Hd.mk hdg; clear hrn hdg; by_cases h256 : 256 < xs.length
   ·have hno : Raw.ok ⟨neg, A, c, xs⟩ = false := by
     unfold Raw.ok; rw [decide_eq_false (show ¬ xs.length ≤ 256 by omega)]; rfl
    have HNO := Hd.mk (all_no HR.out hno); clear hno; have hi : (256 : Int) < (xs.length : Int) := by omega
    go_wp2_with fail
    go_ret
    exact ⟨ret_bool HNO.out, by repeat (first | exact HB.out | exact Below.refl _ _ | refine below_alloc ?_ _ | refine below_drewN ?_ _ | refine below_drew ?_ | refine below_set ?_ (by first | exact Nat.le_refl _ | omega | (simp; done) | (simp; omega)) _)⟩
   have hi : ¬ (256 : Int) < (xs.length : Int) := by omega
   rcases xs with _ | ⟨x0, xt⟩
   ·rcases neg with _ | _
    ·have HY := Hd.mk (all_yes HR.out (show Raw.ok ⟨false, A, c, []⟩ = true from rfl) HA.out); go_wp2_with fail
     go_roundw
     case rel => exact ⟨k + 1, by omega, by go_num, HY.out, by repeat (first | exact HB.out | exact Below.refl _ _ | refine below_alloc ?_ _ | refine below_drewN ?_ _ | refine below_drew ?_ | refine below_set ?_ (by first | exact Nat.le_refl _ | omega | (simp; done) | (simp; omega)) _)⟩
     case measure => simp [intOf]; omega
    have HNO := Hd.mk (all_no HR.out (show Raw.ok ⟨true, A, c, []⟩ = false from rfl)); go_wp2_with fail
    go_ret
    exact ⟨ret_bool HNO.out, by repeat (first | exact HB.out | exact Below.refl _ _ | refine below_alloc ?_ _ | refine below_drewN ?_ _ | refine below_drew ?_ | refine below_set ?_ (by first | exact Nat.le_refl _ | omega | (simp; done) | (simp; omega)) _)⟩
   obtain ⟨m, hm⟩ : ∃ m, m = (x0 :: xt).length := ⟨_, rfl⟩; have hm0 : 0 < m := by rw [hm]; simp
   obtain ⟨ad, rfl, hcell⟩ := (HRN.out.to (below_alloc (Below.refl _ _) (.cells #[.bool neg, .slice A (x0 :: xt).length c] 24))).at_ (k := m - 1) (by omega); obtain ⟨y, hy⟩ : ∃ y, y = (x0 :: xt).getD (m - 1) 0 := ⟨_, rfl⟩; rw [← hy] at hcell; rw [← hm] at hc1 hi hlc h256 hcell; have HMM := Hd.mk hm; have HYY := Hd.mk hy; have hm1 : ((m : Int) == 0) = false := by rw [beq_eq_false_iff_ne]; omega
   clear hm hy; by_cases hy0 : y = 0
   ·have hno : Raw.ok ⟨neg, some ad, c, x0 :: xt⟩ = false := by
     unfold Raw.ok; simp only [← HMM.out, ← HYY.out, hy0]; rw [decide_eq_true hm0]; simp
    have HNO := Hd.mk (all_no HR.out hno); subst hy0; clear hno; go_wp2_with fail
    go_ret
    exact ⟨ret_bool HNO.out, by repeat (first | exact HB.out | exact Below.refl _ _ | refine below_alloc ?_ _ | refine below_drewN ?_ _ | refine below_drew ?_ | refine below_set ?_ (by first | exact Nat.le_refl _ | omega | (simp; done) | (simp; omega)) _)⟩
   have hyes : Raw.ok ⟨neg, some ad, c, x0 :: xt⟩ = true := by
    unfold Raw.ok; simp only [← HMM.out, ← HYY.out]; rw [decide_eq_true (show m ≤ 256 by omega), decide_eq_false (show ¬ m = 0 by omega), decide_eq_false hy0]; simp
   have HY := Hd.mk (all_yes HR.out hyes HA.out); have hy1 : ((y : Int) == 0) = false := by rw [beq_eq_false_iff_ne]; omega
   clear hyes hy0; go_wp2_with fail
   go_roundw
   case rel => exact ⟨k + 1, by omega, by go_num, HY.out, by repeat (first | exact HB.out | exact Below.refl _ _ | refine below_alloc ?_ _ | refine below_drewN ?_ _ | refine below_drew ?_ | refine below_set ?_ (by first | exact Nat.le_refl _ | omega | (simp; done) | (simp; omega)) _)⟩
   case measure => simp [intOf]; omega
  have hke : k = n := by omega
  subst hke; go_wp2
  go_ret
  refine ⟨ret_bool ?_, HB.out⟩; rw [← HA.out, List.take_of_length_le (by have := HN.out; omega)]
def Raw.val (r : Raw) : Int := if r.neg = true then -((Go.Proofs.YtdfhhceboacdcaaGreatDoor.val r.xs : Nat) : Int) else ((Go.Proofs.YtdfhhceboacdcaaGreatDoor.val r.xs : Nat) : Int)
def Raw.v (r : Raw) : Value := .agg #[.bool r.neg, .slice r.A r.xs.length r.c]
theorem Raw.natAbs (r : Raw) : r.val.natAbs = Go.Proofs.YtdfhhceboacdcaaGreatDoor.val r.xs := by
 unfold Raw.val; split <;> omega
theorem Raw.ok_dig {r : Raw} (h : r.ok = true) (hd : Dg r.xs) : dig r.val.natAbs = r.xs := by
 rw [Raw.natAbs]; refine dig_val hd fun k hk => ?_
 unfold Raw.ok at h; simp only [Bool.and_eq_true, decide_eq_true_eq, Bool.not_eq_true', Bool.and_eq_false_iff, decide_eq_false_iff_not] at h; rw [show r.xs.length - 1 = k from by omega] at h; rcases h.2 with h2 | h2
 ·omega
 exact h2
theorem Raw.ok_neg {r : Raw} (h : r.ok = true) (hd : Dg r.xs) : r.neg = decide (r.val < 0) := by
 have e := Raw.ok_dig h hd; unfold Raw.ok at h; simp only [Bool.and_eq_true, decide_eq_true_eq, Bool.not_eq_true', Bool.and_eq_false_iff, decide_eq_false_iff_not] at h; rcases hn : r.neg with _ | _
 ·symm
  apply decide_eq_false; unfold Raw.val; rw [hn]; simp
 symm
 apply decide_eq_true
 have h0 : r.xs.length ≠ 0 := by
  rcases h.1.2 with h1 | h1
  ·exact h1
  rw [hn] at h1; cases h1
 have hv : Go.Proofs.YtdfhhceboacdcaaGreatDoor.val r.xs ≠ 0 := fun hz => h0 (by rw [← e, Raw.natAbs, hz, dig_zero]; rfl)
 unfold Raw.val; rw [if_pos hn]; omega
section
variable {w w' W : World} {g : Nat} {t t1 t2 t3 : TypeId} {x0 x1 y0 y1 r0 r1 : Value} {cs : List Value}
theorem Blk.c0 (h : Blk w g t (x0 :: cs)) : w.cell? ⟨g, 0, none⟩ = some x0 := h.cell 0
theorem Blk.c1 (h : Blk w g t (x0 :: x1 :: cs)) : w.cell? ⟨g, 1, none⟩ = some x1 := h.cell 1
theorem Blk.f0 (h : Blk w g t (x0 :: cs)) : w.frozen? ⟨g, 0, none⟩ = false := h.frozen 0
theorem Blk.f1 (h : Blk w g t (x0 :: x1 :: cs)) : w.frozen? ⟨g, 1, none⟩ = false := h.frozen 1
theorem boxes1 (h : W = w.alloc (.cells #[x0, x1] t1)) : Blk W w.heap.size t1 [x0, x1] ∧ Below w.heap.size w W := by
 subst h; exact ⟨heap_alloc_new _ _, below_alloc (Below.refl _ _) _⟩
theorem boxes2 (h : W = (w.alloc (.cells #[x0, x1] t1)).alloc (.cells #[y0, y1] t2)) : Blk W w.heap.size t1 [x0, x1] ∧ Blk W (w.heap.size + 1) t2 [y0, y1] ∧ Below w.heap.size w W := by
 subst h; exact ⟨Blk.alloc (heap_alloc_new _ _) _, blk_second w _ [y0, y1] t2, below_alloc (below_alloc (Below.refl _ _) _) _⟩
theorem boxes3 (h : W = ((w.alloc (.cells #[x0, x1] t1)).alloc (.cells #[y0, y1] t2)).alloc (.cells #[r0, r1] t3)) : Blk W w.heap.size t1 [x0, x1] ∧ Blk W (w.heap.size + 1) t2 [y0, y1] ∧ Blk W (w.heap.size + 1 + 1) t3 [r0, r1] ∧ Below w.heap.size w W := by
 subst h; exact ⟨Blk.alloc (Blk.alloc (heap_alloc_new _ _) _) _, (blk_second w _ [y0, y1] t2).alloc _, blk_third w _ _ [r0, r1] t3, below_alloc (below_alloc (below_alloc (Below.refl _ _) _) _) _⟩
end
theorem ln_pos {n : Nat} : 0 < ln n ↔ 0 < n := by
 have := ln_eq_zero (n := n); omega
theorem signed_calls (b b2 : Bool) (A : Option Addr) (l c : Nat) (w : World) (hl : l ≤ 9223372036854775807) (h : (b && decide (0 < l)) = b2) :
  Calls Tryz.prog 55 #[.bool b, .slice A l c] w fun e w' => e = .returned (.agg #[.bool b2, .slice A l c]) ∧ Below w.heap.size w w' := by
 have H := Hd.mk h; clear h; rcases b with _ | _
 ·have : b2 = false := by rw [← H.out]; rfl
  subst this; go_enter Tryz.func55, Tryz.ntmps55
  go_wp2_with fail
  exact bodyPost_ret (v := .agg #[.bool false, .slice A l c]) (by simp [results, Tryz.results55, go_sem]) rfl ⟨rfl, by repeat (first | exact HB.out | exact Below.refl _ _ | refine below_alloc ?_ _ | refine below_drewN ?_ _ | refine below_drew ?_ | refine below_set ?_ (by first | exact Nat.le_refl _ | omega | (simp; done) | (simp; omega)) _)⟩
 by_cases h0 : 0 < l
 ·have : b2 = true := by rw [← H.out]; simp [h0]
  subst this; have hd : decide (0 < l) = true := decide_eq_true h0; go_enter Tryz.func55, Tryz.ntmps55
  go_wp2_with fail
  exact bodyPost_ret (v := .agg #[.bool true, .slice A l c]) (by simp [results, Tryz.results55, go_sem]) rfl ⟨rfl, by repeat (first | exact HB.out | exact Below.refl _ _ | refine below_alloc ?_ _ | refine below_drewN ?_ _ | refine below_drew ?_ | refine below_set ?_ (by first | exact Nat.le_refl _ | omega | (simp; done) | (simp; omega)) _)⟩
 have : b2 = false := by rw [← H.out]; simp [h0]
 subst this; have hd : decide (0 < l) = false := decide_eq_false h0; go_enter Tryz.func55, Tryz.ntmps55
 go_wp2_with fail
 exact bodyPost_ret (v := .agg #[.bool false, .slice A l c]) (by simp [results, Tryz.results55, go_sem]) rfl ⟨rfl, by repeat (first | exact HB.out | exact Below.refl _ _ | refine below_alloc ?_ _ | refine below_drewN ?_ _ | refine below_drew ?_ | refine below_set ?_ (by first | exact Nat.le_refl _ | omega | (simp; done) | (simp; omega)) _)⟩
def sgnv (z : Int) : Int := if z < 0 then -1 else if z = 0 then 0 else 1
theorem rSign_calls (z : Int) (A : Option Addr) (c : Nat) (w : World) (hl : ln z.natAbs ≤ 9223372036854775807) :
  Calls Tryz.prog 33 #[.agg #[.bool (decide (z < 0)), .slice A (ln z.natAbs) c]] w fun e w' => e = .returned (.int .i64 (sgnv z)) ∧ Below w.heap.size w w' := by
 by_cases h0 : z = 0
 ·subst h0; rw [show ln (Int.natAbs 0) = 0 from ln_zero, show decide ((0 : Int) < 0) = false from rfl, show sgnv 0 = 0 from rfl]; go_enter Tryz.func33, Tryz.ntmps33
  go_wp2
  go_ret
  exact ⟨rfl, by repeat (first | exact HB.out | exact Below.refl _ _ | refine below_alloc ?_ _ | refine below_drewN ?_ _ | refine below_drew ?_ | refine below_set ?_ (by first | exact Nat.le_refl _ | omega | (simp; done) | (simp; omega)) _)⟩
 have hne : ((ln z.natAbs : Int) == 0) = false := by
  have := ln_eq_zero (n := z.natAbs); rw [beq_eq_false_iff_ne]; omega
 by_cases hz : z < 0
 ·have hs : sgnv z = -1 := if_pos hz; have hd : decide (z < 0) = true := decide_eq_true hz; rw [hs, hd]; clear hs hd hz h0; go_enter Tryz.func33, Tryz.ntmps33
  go_wp2
  go_ret
  exact ⟨rfl, by repeat (first | exact HB.out | exact Below.refl _ _ | refine below_alloc ?_ _ | refine below_drewN ?_ _ | refine below_drew ?_ | refine below_set ?_ (by first | exact Nat.le_refl _ | omega | (simp; done) | (simp; omega)) _)⟩
 have hs : sgnv z = 1 := by unfold sgnv; rw [if_neg hz, if_neg h0]
 have hd : decide (z < 0) = false := decide_eq_false hz; rw [hs, hd]; clear hs hd hz h0; go_enter Tryz.func33, Tryz.ntmps33
 go_wp2
 go_ret
 exact ⟨rfl, by repeat (first | exact HB.out | exact Below.refl _ _ | refine below_alloc ?_ _ | refine below_drewN ?_ _ | refine below_drew ?_ | refine below_set ?_ (by first | exact Nat.le_refl _ | omega | (simp; done) | (simp; omega)) _)⟩
theorem rZero_calls (b : Bool) (A : Option Addr) (l c : Nat) (w : World) (hl : l ≤ 9223372036854775807) :
  Calls Tryz.prog 29 #[.agg #[.bool b, .slice A l c]] w fun e w' => e = .returned (.bool (decide (l = 0))) ∧ Below w.heap.size w w' := by
 go_enter Tryz.func29, Tryz.ntmps29
 go_wp2
 go_ret
 exact ⟨ret_bool (by rw [Bool.eq_iff_iff]; simp), by repeat (first | exact HB.out | exact Below.refl _ _ | refine below_alloc ?_ _ | refine below_drewN ?_ _ | refine below_drew ?_ | refine below_set ?_ (by first | exact Nat.le_refl _ | omega | (simp; done) | (simp; omega)) _)⟩
theorem rFits_calls (b : Bool) (A : Option Addr) (l c : Nat) (w : World) (hl : l ≤ 9223372036854775807) :
  Calls Tryz.prog 56 #[.agg #[.bool b, .slice A l c]] w fun e w' => e = .returned (.bool (decide (l ≤ 256))) ∧ Below w.heap.size w w' := by
 go_enter Tryz.func56, Tryz.ntmps56
 go_wp2
 go_ret
 exact ⟨ret_bool (by rw [Bool.eq_iff_iff]; simp; omega), by repeat (first | exact HB.out | exact Below.refl _ _ | refine below_alloc ?_ _ | refine below_drewN ?_ _ | refine below_drew ?_ | refine below_set ?_ (by first | exact Nat.le_refl _ | omega | (simp; done) | (simp; omega)) _)⟩
theorem rInt_calls (b : Bool) (A : Option Addr) (n c : Nat) (w : World) :
  Calls Tryz.prog 42 #[.agg #[.bool b, .slice A n c]] w fun e w' => e = .returned (.agg #[.bool b, .slice A n c]) ∧ Below w.heap.size w w' := by
 go_enter Tryz.func42, Tryz.ntmps42
 go_wp2_with fail
 exact bodyPost_ret (v := .agg #[.bool b, .slice A n c]) (by simp [results, Tryz.results42, go_sem]) rfl ⟨rfl, by repeat (first | exact HB.out | exact Below.refl _ _ | refine below_alloc ?_ _ | refine below_drewN ?_ _ | refine below_drew ?_ | refine below_set ?_ (by first | exact Nat.le_refl _ | omega | (simp; done) | (simp; omega)) _)⟩
theorem rOf_calls (b : Bool) (A : Option Addr) (n c : Nat) (w : World) :
  Calls Tryz.prog 30 #[.agg #[.bool b, .slice A n c]] w fun e w' => e = .returned (.agg #[.bool b, .slice A n c]) ∧ Below w.heap.size w w' := by
 go_enter Tryz.func30, Tryz.ntmps30
 go_wp2_with fail
 exact bodyPost_ret (v := .agg #[.bool b, .slice A n c]) (by simp [results, Tryz.results30, go_sem]) rfl ⟨rfl, by repeat (first | exact HB.out | exact Below.refl _ _ | refine below_alloc ?_ _ | refine below_drewN ?_ _ | refine below_drew ?_ | refine below_set ?_ (by first | exact Nat.le_refl _ | omega | (simp; done) | (simp; omega)) _)⟩
theorem sgn_minus (z : Int) : ((!decide (z < 0)) && decide (0 < ln z.natAbs)) = decide (-z < 0) := by
 rw [Bool.eq_iff_iff]; simp [ln_pos]; omega
theorem rMinus_calls (z : Int) (A : Option Addr) (c : Nat) (w : World) (h : NN w A c z.natAbs) :
  Calls Tryz.prog 61 #[.agg #[.bool (decide (z < 0)), .slice A (ln z.natAbs) c]] w fun e w' => e = .returned (.agg #[.bool (decide (-z < 0)), .slice A (ln z.natAbs) c]) ∧ Below w.heap.size w w' := by
 have hl := Nat.le_trans h.2.1 h.2.2; have HS := Hd.mk (sgn_minus z); clear h; obtain ⟨b1, hb1⟩ : ∃ b, b = decide (z < 0) := ⟨_, rfl⟩; obtain ⟨b2, hb2⟩ : ∃ b, b = decide (-z < 0) := ⟨_, rfl⟩; rw [← hb1, ← hb2] at HS ⊢; clear hb1 hb2; go_enter Tryz.func61, Tryz.ntmps61
 go_wp2_with (first | (go_at_call 55; refine (signed_calls (!b1) b2 _ _ _ _ hl HS.out).mono ?_; rintro e w1 ⟨rfl, hb1⟩; obtain ⟨hc1, hf1⟩ := bcell hb1; have hz1 : w.heap.size + 1 < w1.heap.size := (by have := hb1.size; simp at this; omega); have HB : Hd (Below w.heap.size w w1) := ⟨bel_then (by repeat (first | exact HB.out | exact Below.refl _ _ | refine below_alloc ?_ _ | refine below_drewN ?_ _ | refine below_drew ?_ | refine below_set ?_ (by first | exact Nat.le_refl _ | omega | (simp; done) | (simp; omega)) _)) hb1⟩; clear hb1))
 have g0 : w1.cell? ⟨w.heap.size + 1, 0, none⟩ = some (.bool false) := (hc1 _ _ (by simp)).trans (blk_second w _ [.bool false, .slice none 0 0] 61).c0; have g1 : w1.cell? ⟨w.heap.size + 1, 1, none⟩ = some (.slice none 0 0) := (hc1 _ _ (by simp)).trans (blk_second w _ [.bool false, .slice none 0 0] 61).c1; obtain ⟨k0, k1, k2⟩ := two_set g0 g1 (.bool b2) (.slice A (ln z.natAbs) c); refine bodyPost_ret (v := .agg #[.bool b2, .slice A (ln z.natAbs) c]) (by simp [results, Tryz.results61, go_sem, k0, k1]) rfl ?_; exact ⟨rfl, by repeat (first | exact HB.out | exact Below.refl _ _ | refine below_alloc ?_ _ | refine below_drewN ?_ _ | refine below_drew ?_ | refine below_set ?_ (by first | exact Nat.le_refl _ | omega | (simp; done) | (simp; omega)) _)⟩
end Go.Proofs.YtdfhhceboacdcaaGreatDoor
