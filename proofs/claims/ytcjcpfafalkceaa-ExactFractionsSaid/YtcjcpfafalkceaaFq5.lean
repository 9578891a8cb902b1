/- Part 5 of the texts behind this claim. -/
import Derived.Deep.RegionWith
import Derived.BigRegion
import Derived.Test.YtcjcpfafalkceaaFq4
set_option linter.unusedVariables false
namespace Go.Proofs.Ytcjcpfafalkceaa
open Go.RowKit
set_option maxRecDepth 100000 in
theorem mul_big (N : Nat) (H : MulOk N) (A1 : Option Addr) (c1 m : Nat) (A2 : Option Addr) (c2 n : Nat) (w : World) (h1 : NN w A1 c1 m) (h2 : NN w A2 c2 n) (l1 : ln m ≤ 268435456) (l2 : ln n ≤ 268435456) (hm : 40 ≤ ln m) (hn : 40 ≤ ln n) (hN : ln m + ln n ≤ N + 1) :
    Calls Try.prog 117 #[.slice A1 (ln m) c1, .slice A2 (ln n) c2] w (RetN (m * n) w) := by
  by_cases hlt : ln m < ln n
  · have c := split_calls N H A2 c2 n A1 c1 m w h2 h1 l2 (by omega) hm (by omega)
    rw [Nat.mul_comm n m] at c
    have HC := Hd.mk c
    clear c h1 h2
    go_enter Try.func117, Try.ntmps117
    go_wp2_with (first | (go_at_call 137; refine HC.out.mono ?_; rintro e w1 ⟨A, c, rfl, hN1, hB⟩; have HN := Hd.mk hN1; have HB := Hd.mk hB; clear hN1 hB))
    go_ret
    exact ⟨A, c, rfl, HN.out, HB.out⟩
  · have c := split_calls N H A1 c1 m A2 c2 n w h1 h2 l1 (by omega) hn (by omega)
    have HC := Hd.mk c
    clear c h1 h2
    go_enter Try.func117, Try.ntmps117
    go_wp2_with (first | (go_at_call 137; refine HC.out.mono ?_; rintro e w1 ⟨A, c, rfl, hN1, hB⟩; have HN := Hd.mk hN1; have HB := Hd.mk hB; clear hN1 hB))
    go_ret
    exact ⟨A, c, rfl, HN.out, HB.out⟩
theorem mul_ok : ∀ N, MulOk N := by
  intro N
  induction N with
  | zero =>
    intro A1 c1 m A2 c2 n w h1 h2 l1 l2 hN
    exact mul_school A1 c1 m A2 c2 n w h1 h2 (by omega) (by omega) (by omega)
  | succ N ih =>
    intro A1 c1 m A2 c2 n w h1 h2 l1 l2 hN
    by_cases hs : ln m < 40 ∨ ln n < 40
    · exact mul_school A1 c1 m A2 c2 n w h1 h2 (by omega) (by omega) hs
    · exact mul_big N ih A1 c1 m A2 c2 n w h1 h2 l1 l2 (by omega) (by omega) hN
theorem mul_calls (A1 : Option Addr) (c1 m : Nat) (A2 : Option Addr) (c2 n : Nat) (w : World) (h1 : NN w A1 c1 m) (h2 : NN w A2 c2 n) (l1 : ln m ≤ 268435456) (l2 : ln n ≤ 268435456) :
    Calls Try.prog 117 #[.slice A1 (ln m) c1, .slice A2 (ln n) c2] w (RetN (m * n) w) := mul_ok _ A1 c1 m A2 c2 n w h1 h2 l1 l2 (Nat.le_refl _)
end Go.Proofs.Ytcjcpfafalkceaa
set_option linter.unusedVariables false
namespace Go.Proofs.Ytcjcpfafalkceaa
open Go.RowKit
set_option maxRecDepth 100000 in
theorem clone_calls (A : Option Addr) (c n : Nat) (w : World) (h : NN w A c n) (l1 : ln n ≤ 1073741824) :
    Calls Try.prog 119 #[.slice A (ln n) c] w (RetN n w) := by
  rcases A with _ | ad
  · have heq := fun W => Lib.run_eql_slice_nil (P := Try.prog) W 22 72 none (ln n) c 0 0 Try.underlying22
    have h0 : n = 0 := by
      by_cases h0 : 0 < ln n
      · obtain ⟨ad, e, _⟩ := h.1 h0
        cases e
      · exact ln_eq_zero.1 (by omega)
    subst h0
    clear h
    go_enter Try.func119, Try.ntmps119
    go_wp2
    go_ret
    exact ⟨none, 0, by rw [ln_zero]; rfl, NN.nil _ _ _ (by omega), Below.refl _ _⟩
  · have heq := fun W => Lib.run_eql_slice_nil (P := Try.prog) W 22 72 (some ad) (ln n) c 0 0 Try.underlying22
    have hown : (w.alloc (.cells #[] 72)).ownsRow w.heap.size 72 1 (.slice (some ⟨w.heap.size, 0, none⟩) 0 0) 0 (cells []) := own_made (heap_alloc_new w (.cells #[] 72)) (ds := []) (c := 0) (n := 0) rfl (Nat.le_refl _) (by omega) (Nat.le_refl _)
    have hrd := (h.1.to (below_alloc (Below.refl _ _) (.cells #[] 72))).reads
    have HO := Hd.mk hown
    have HR := Hd.mk hrd
    obtain ⟨i0, hi, hz0, hz1, hz2⟩ := info_parts Try.info_word
    clear h hown hrd
    go_enter Try.func119, Try.ntmps119
    go_wp2_with (first | (at_builtin; refine wpList_append_any _ rfl (.tmp 5) (.tmp 6) 22 rfl w.heap.size 72 i0 (.int .u32 0) 1 4 Try.underlying22 hi hz0 hz1 hz2 rfl (by decide) (.slice (some ⟨w.heap.size, 0, none⟩) 0 0) 0 (cells []) rfl HO.out _ (some ad) (ln n) c (cells (dig n)) rfl HR.out (cells_one _) (by unfold maxLen; omega) (by omega) (by simp) ?_; intro v1 w1 hown1 hg1 hat1))
    rw [Nat.zero_add, show cells [] ++ cells (dig n) = cells (dig n) from rfl] at hown1
    obtain ⟨A, c, rfl, hrn, hc1, hc2⟩ := own_slice (xs := dig n) hown1
    go_wp2
    go_ret
    exact ⟨A, c, rfl, ⟨hrn, hc1, hc2⟩, (below_alloc (Below.refl w.heap.size w) _).grown hg1 (by simp) (fun j e => by cases e; exact Nat.le_refl _)⟩
theorem of_calls (b : Bool) (A : Option Addr) (n c : Nat) (w : World) :
    Calls Try.prog 69 #[.agg #[.bool b, .slice A n c]] w fun e w' => e = .returned (.agg #[.bool b, .slice A n c]) ∧ Below w.heap.size w w' := by
  go_enter Try.func69, Try.ntmps69
  go_wp2_with fail
  exact bodyPost_ret (v := .agg #[.bool b, .slice A n c]) (by simp [results, Try.results69, go_sem]) rfl ⟨rfl, by repeat (first | exact HB.out | exact Below.refl _ _ | refine below_alloc ?_ _ | refine below_drewN ?_ _ | refine below_drew ?_ | refine below_set ?_ (by first | exact Nat.le_refl _ | omega | (simp; done) | (simp; omega)) _)⟩
set_option maxRecDepth 100000 in
theorem value_calls (z : Int) (A : Option Addr) (c : Nat) (w : World) (h : NN w A c z.natAbs) (l1 : ln z.natAbs ≤ 1073741824) :
    Calls Try.prog 72 #[.agg #[.bool (decide (z < 0)), .slice A (ln z.natAbs) c]] w (RetZ z w) := by
  have HX := Hd.mk h
  by_cases h0 : z = 0
  · subst h0
    clear h
    rw [show ln (Int.natAbs 0) = 0 from ln_zero, show decide ((0 : Int) < 0) = false from rfl]
    have hd0 : decide ((0 : Nat) = 0) = true := rfl
    go_enter Try.func72, Try.ntmps72
    go_wp2_with (first | (go_at_call 89; refine (zero_calls _ _ _ _ (by omega)).mono ?_; rintro e w' ⟨rfl, rfl⟩))
    exact bodyPost_ret (v := .agg #[.bool false, .slice none 0 0]) (by simp [results, Try.results72, go_sem]) rfl ⟨none, 0, by rw [show ln (Int.natAbs 0) = 0 from ln_zero]; rfl, NN.nil _ _ _ (by omega), by repeat (first | exact HB.out | exact Below.refl _ _ | refine below_alloc ?_ _ | refine below_drewN ?_ _ | refine below_drew ?_ | refine below_set ?_ (by first | exact Nat.le_refl _ | omega | (simp; done) | (simp; omega)) _)⟩
  · have hl : ln z.natAbs ≠ 0 := fun h => h0 (by have := ln_eq_zero.1 h; omega)
    have hd0 : decide (ln z.natAbs = 0) = false := decide_eq_false hl
    clear h
    obtain ⟨b, hb⟩ : ∃ b, b = decide (z < 0) := ⟨_, rfl⟩
    rw [← hb]
    have HBB := Hd.mk hb
    clear hb
    go_enter Try.func72, Try.ntmps72
    go_wp2_with (first | (go_at_call 89; refine (zero_calls _ _ _ _ (by omega)).mono ?_; rintro e w' ⟨rfl, rfl⟩))
    go_region_held3 (fun w' => w'.cell? ⟨w.heap.size, 0, none⟩ = some (.bool b) ∧ w'.cell? ⟨w.heap.size, 1, none⟩ = some (.slice A (ln z.natAbs) c))
      (first | go_keep | (go_split_ands; exact ⟨(hc1 _ _ (by simp; omega)).trans (by simp), (hc1 _ _ (by simp; omega)).trans (by simp)⟩))
      (first | (go_at_call 119; refine (clone_calls _ _ _ _ (HX.out.to (by repeat (first | exact HB.out | exact Below.refl _ _ | refine below_alloc ?_ _ | refine below_drewN ?_ _ | refine below_drew ?_ | refine below_set ?_ (by first | exact Nat.le_refl _ | omega | (simp; done) | (simp; omega)) _))) l1).mono ?_; rintro e w1 ⟨A1, c1, rfl, hn1, hb1⟩; obtain ⟨hc1, hf1⟩ := bcell hb1; have HN1 := Hd.mk hn1; have HB1 := Hd.mk hb1; clear hn1 hb1))
    go_wp2_with fail
    have HB : Hd (Below w.heap.size w w1) := ⟨bel_then (by repeat (first | exact HB.out | exact Below.refl _ _ | refine below_alloc ?_ _ | refine below_drewN ?_ _ | refine below_drew ?_ | refine below_set ?_ (by first | exact Nat.le_refl _ | omega | (simp; done) | (simp; omega)) _)) HB1.out⟩
    have g0 : w1.cell? ⟨w.heap.size + 1, 0, none⟩ = some (.bool false) := (hc1 _ _ (by simp)).trans (by simp)
    have g1 : w1.cell? ⟨w.heap.size + 1, 1, none⟩ = some (.slice none 0 0) := (hc1 _ _ (by simp)).trans (by simp)
    obtain ⟨k0, k1, k2⟩ := two_set g0 g1 (.bool b) (.slice A1 (ln z.natAbs) c1)
    refine bodyPost_ret (v := .agg #[.bool b, .slice A1 (ln z.natAbs) c1]) (by simp [results, Try.results72, go_sem, k0, k1]) rfl ?_
    exact ⟨A1, c1, by rw [HBB.out], (HN1.out.set_ g0 (by intro x; simp) _).set_ k2 (by intro x; simp) _, by repeat (first | exact HB.out | exact Below.refl _ _ | refine below_alloc ?_ _ | refine below_drewN ?_ _ | refine below_drew ?_ | refine below_set ?_ (by first | exact Nat.le_refl _ | omega | (simp; done) | (simp; omega)) _)⟩
set_option maxRecDepth 100000 in
theorem minus_calls (z : Int) (A : Option Addr) (c : Nat) (w : World) (h : NN w A c z.natAbs) :
    Calls Try.prog 92 #[.agg #[.bool (decide (z < 0)), .slice A (ln z.natAbs) c]] w fun e w' => e = .returned (.agg #[.bool (decide (-z < 0)), .slice A (ln z.natAbs) c]) ∧ Below w.heap.size w w' := by
  have hl := Nat.le_trans h.2.1 h.2.2
  clear h
  by_cases hz : z < 0
  · have h1 : decide (z < 0) = true := decide_eq_true hz
    have h2 : decide (-z < 0) = false := decide_eq_false (by omega)
    have hd0 : decide (ln z.natAbs = 0) = false := decide_eq_false (fun h => by have := ln_eq_zero.1 h; omega)
    rw [h1, h2]
    clear hz h1 h2
    go_enter Try.func92, Try.ntmps92
    go_wp2_with fail
    refine wp_still_tail 12 (by kernel_rfl) (by kernel_rfl) (fun w2 hw2 => ?_)
    simp only [List.take_succ_cons, List.take_zero, List.drop_succ_cons, List.drop_zero]
    have k0 : w2.cell? ⟨w.heap.size, 0, none⟩ = some (.bool true) := by rw [hw2]; simp
    have k1 : w2.cell? ⟨w.heap.size, 1, none⟩ = some (.slice A (ln z.natAbs) c) := by rw [hw2]; simp
    have k2 : w2.cell? ⟨w.heap.size + 1, 0, none⟩ = some (.bool false) := by rw [hw2]; simp
    have k3 : w2.cell? ⟨w.heap.size + 1, 1, none⟩ = some (.slice none 0 0) := by rw [hw2]; simp
    have f0 : w2.frozen? ⟨w.heap.size + 1, 0, none⟩ = false := by rw [hw2]; simp
    have f1 : w2.frozen? ⟨w.heap.size + 1, 1, none⟩ = false := by rw [hw2]; simp
    have HB : Hd (Below w.heap.size w w2) := ⟨by rw [hw2]; repeat (first | exact HB.out | exact Below.refl _ _ | refine below_alloc ?_ _ | refine below_drewN ?_ _ | refine below_drew ?_ | refine below_set ?_ (by first | exact Nat.le_refl _ | omega | (simp; done) | (simp; omega)) _)⟩
    obtain ⟨j0, j1, j2⟩ := two_set k2 k3 (.bool false) (.slice A (ln z.natAbs) c)
    clear hw2
    repeat (first | still_step | still_call (zero_is false A (ln z.natAbs) c w2 (by omega) hd0))
    refine wpStill_nil ?_
    go_wp2_with fail
    exact bodyPost_ret (v := .agg #[.bool false, .slice A (ln z.natAbs) c]) (by simp [results, Try.results92, go_sem, j0, j1]) rfl ⟨rfl, by repeat (first | exact HB.out | exact Below.refl _ _ | refine below_alloc ?_ _ | refine below_drewN ?_ _ | refine below_drew ?_ | refine below_set ?_ (by first | exact Nat.le_refl _ | omega | (simp; done) | (simp; omega)) _)⟩
  · have h1 : decide (z < 0) = false := decide_eq_false hz
    rw [h1]
    by_cases h0 : z = 0
    · have h2 : decide (-z < 0) = false := decide_eq_false (by omega)
      have h3 : ln z.natAbs = 0 := ln_eq_zero.2 (by omega)
      rw [h2, h3]
      have hd0 : decide ((0 : Nat) = 0) = true := rfl
      clear hl hz h1 h2 h3 h0
      go_enter Try.func92, Try.ntmps92
      go_wp2_with fail
      refine wp_still_tail 12 (by kernel_rfl) (by kernel_rfl) (fun w2 hw2 => ?_)
      simp only [List.take_succ_cons, List.take_zero, List.drop_succ_cons, List.drop_zero]
      have k0 : w2.cell? ⟨w.heap.size, 0, none⟩ = some (.bool false) := by rw [hw2]; simp
      have k1 : w2.cell? ⟨w.heap.size, 1, none⟩ = some (.slice A (0) c) := by rw [hw2]; simp
      have k2 : w2.cell? ⟨w.heap.size + 1, 0, none⟩ = some (.bool false) := by rw [hw2]; simp
      have k3 : w2.cell? ⟨w.heap.size + 1, 1, none⟩ = some (.slice none 0 0) := by rw [hw2]; simp
      have f0 : w2.frozen? ⟨w.heap.size + 1, 0, none⟩ = false := by rw [hw2]; simp
      have f1 : w2.frozen? ⟨w.heap.size + 1, 1, none⟩ = false := by rw [hw2]; simp
      have HB : Hd (Below w.heap.size w w2) := ⟨by rw [hw2]; repeat (first | exact HB.out | exact Below.refl _ _ | refine below_alloc ?_ _ | refine below_drewN ?_ _ | refine below_drew ?_ | refine below_set ?_ (by first | exact Nat.le_refl _ | omega | (simp; done) | (simp; omega)) _)⟩
      obtain ⟨j0, j1, j2⟩ := two_set k2 k3 (.bool false) (.slice A (0) c)
      clear hw2
      repeat (first | still_step | still_call (zero_is true A (0) c w2 (by omega) hd0))
      refine wpStill_nil ?_
      go_wp2_with fail
      exact bodyPost_ret (v := .agg #[.bool false, .slice A (0) c]) (by simp [results, Try.results92, go_sem, j0, j1]) rfl ⟨rfl, by repeat (first | exact HB.out | exact Below.refl _ _ | refine below_alloc ?_ _ | refine below_drewN ?_ _ | refine below_drew ?_ | refine below_set ?_ (by first | exact Nat.le_refl _ | omega | (simp; done) | (simp; omega)) _)⟩
    · have h2 : decide (-z < 0) = true := decide_eq_true (by omega)
      have h3 : ln z.natAbs ≠ 0 := fun h => h0 (by have := ln_eq_zero.1 h; omega)
      rw [h2]
      have hd0 : decide (ln z.natAbs = 0) = false := decide_eq_false h3
      clear hz h1 h2 h3 h0
      go_enter Try.func92, Try.ntmps92
      go_wp2_with fail
      refine wp_still_tail 12 (by kernel_rfl) (by kernel_rfl) (fun w2 hw2 => ?_)
      simp only [List.take_succ_cons, List.take_zero, List.drop_succ_cons, List.drop_zero]
      have k0 : w2.cell? ⟨w.heap.size, 0, none⟩ = some (.bool false) := by rw [hw2]; simp
      have k1 : w2.cell? ⟨w.heap.size, 1, none⟩ = some (.slice A (ln z.natAbs) c) := by rw [hw2]; simp
      have k2 : w2.cell? ⟨w.heap.size + 1, 0, none⟩ = some (.bool false) := by rw [hw2]; simp
      have k3 : w2.cell? ⟨w.heap.size + 1, 1, none⟩ = some (.slice none 0 0) := by rw [hw2]; simp
      have f0 : w2.frozen? ⟨w.heap.size + 1, 0, none⟩ = false := by rw [hw2]; simp
      have f1 : w2.frozen? ⟨w.heap.size + 1, 1, none⟩ = false := by rw [hw2]; simp
      have HB : Hd (Below w.heap.size w w2) := ⟨by rw [hw2]; repeat (first | exact HB.out | exact Below.refl _ _ | refine below_alloc ?_ _ | refine below_drewN ?_ _ | refine below_drew ?_ | refine below_set ?_ (by first | exact Nat.le_refl _ | omega | (simp; done) | (simp; omega)) _)⟩
      obtain ⟨j0, j1, j2⟩ := two_set k2 k3 (.bool true) (.slice A (ln z.natAbs) c)
      clear hw2
      repeat (first | still_step | still_call (zero_is false A (ln z.natAbs) c w2 (by omega) hd0))
      refine wpStill_nil ?_
      go_wp2_with fail
      exact bodyPost_ret (v := .agg #[.bool true, .slice A (ln z.natAbs) c]) (by simp [results, Try.results92, go_sem, j0, j1]) rfl ⟨rfl, by repeat (first | exact HB.out | exact Below.refl _ _ | refine below_alloc ?_ _ | refine below_drewN ?_ _ | refine below_drew ?_ | refine below_set ?_ (by first | exact Nat.le_refl _ | omega | (simp; done) | (simp; omega)) _)⟩
end Go.Proofs.Ytcjcpfafalkceaa
set_option linter.unusedVariables false
namespace Go.Proofs.Ytcjcpfafalkceaa
open Go.RowKit
set_option maxHeartbeats 1000000 in
set_option maxRecDepth 100000 in
theorem wadd_calls (x y : Int) (A1 : Option Addr) (c1 : Nat) (A2 : Option Addr) (c2 : Nat) (w : World) (h1 : NN w A1 c1 x.natAbs) (h2 : NN w A2 c2 y.natAbs) (l1 : ln x.natAbs ≤ 1073741824) (l2 : ln y.natAbs ≤ 1073741824) :
    Calls Try.prog 64 #[.agg #[.bool (decide (x < 0)), .slice A1 (ln x.natAbs) c1], .agg #[.bool (decide (y < 0)), .slice A2 (ln y.natAbs) c2]] w (RetZ (x + y) w) := by
  have H1 := Hd.mk h1
  have H2 := Hd.mk h2
  clear h1 h2
  by_cases hs : decide (x < 0) = decide (y < 0)
  · have HZ : Hd ((x + y).natAbs = x.natAbs + y.natAbs) := ⟨by
      by_cases hx : x < 0 <;> by_cases hy : y < 0 <;> simp [hx, hy] at hs <;> omega⟩
    obtain ⟨b, hb⟩ : ∃ b, b = decide (x < 0) := ⟨_, rfl⟩
    have HS : Hd (decide (x + y < 0) = b) := ⟨by
      rw [hb]
      by_cases hx : x < 0 <;> by_cases hy : y < 0 <;> simp [hx, hy] at hs ⊢ <;> omega⟩
    rw [← hs, ← hb]
    clear hs hb
    have hbb : (b == b) = true := by simp
    go_enter Try.func64, Try.ntmps64
    go_wp2_with fail
    have ne1 : w.heap.size + 1 + 1 ≠ w.heap.size := by omega
    have ne2 : w.heap.size + 1 + 1 ≠ w.heap.size + 1 := by omega
    have ne3 : w.heap.size + 1 ≠ w.heap.size := by omega
    go_region_held3 (fun w' => w'.cell? ⟨w.heap.size, 0, none⟩ = some (.bool b) ∧ w'.cell? ⟨w.heap.size, 1, none⟩ = some (.slice A1 (ln x.natAbs) c1) ∧ w'.cell? ⟨w.heap.size + 1, 0, none⟩ = some (.bool b) ∧ w'.cell? ⟨w.heap.size + 1, 1, none⟩ = some (.slice A2 (ln y.natAbs) c2))
      (first | (go_keep; done) | ((repeat' apply And.intro) <;> (first | (go_keep; done) | (rw [hc1 _ _ (by first | (simp; done) | (simp; omega))]; go_keep) | (rw [World.cell?_setCell_far _ _ _ _ (by simp), World.cell?_setCell_far _ _ _ _ (by simp)]; rw [hc1 _ _ (by first | (simp; done) | (simp; omega))]; go_keep))))
      (first | (go_at_call 77; refine (add_calls _ _ _ _ _ _ _ (H1.out.to (by repeat (first | exact HB.out | exact Below.refl _ _ | refine below_alloc ?_ _ | refine below_drewN ?_ _ | refine below_drew ?_ | refine below_set ?_ (by first | exact Nat.le_refl _ | omega | (simp; done) | (simp; omega)) _))) (H2.out.to (by repeat (first | exact HB.out | exact Below.refl _ _ | refine below_alloc ?_ _ | refine below_drewN ?_ _ | refine below_drew ?_ | refine below_set ?_ (by first | exact Nat.le_refl _ | omega | (simp; done) | (simp; omega)) _))) l1 l2).mono ?_; rintro e w1 ⟨A3, c3, rfl, hn1, hb1⟩; obtain ⟨hc1, hf1⟩ := bcell hb1; have HN1 := Hd.mk hn1; have HB1 := Hd.mk hb1; clear hn1 hb1))
    go_wp2_with fail
    have HB : Hd (Below w.heap.size w w1) := ⟨bel_then (by repeat (first | exact HB.out | exact Below.refl _ _ | refine below_alloc ?_ _ | refine below_drewN ?_ _ | refine below_drew ?_ | refine below_set ?_ (by first | exact Nat.le_refl _ | omega | (simp; done) | (simp; omega)) _)) HB1.out⟩
    have g0 : w1.cell? ⟨w.heap.size + 1 + 1, 0, none⟩ = some (.bool false) := (hc1 _ _ (by simp)).trans ((blk_third w _ _ [.bool false, .slice none 0 0] 70).cell 0)
    have g1 : w1.cell? ⟨w.heap.size + 1 + 1, 1, none⟩ = some (.slice none 0 0) := (hc1 _ _ (by simp)).trans ((blk_third w _ _ [.bool false, .slice none 0 0] 70).cell 1)
    obtain ⟨k0, k1, k2⟩ := two_set g0 g1 (.bool b) (.slice A3 (ln (x.natAbs + y.natAbs)) c3)
    refine bodyPost_ret (v := .agg #[.bool b, .slice A3 (ln (x.natAbs + y.natAbs)) c3]) (by simp [results, Try.results64, go_sem, k0, k1]) rfl ?_
    refine ⟨A3, c3, by rw [HZ.out, HS.out], ?_, by repeat (first | exact HB.out | exact Below.refl _ _ | refine below_alloc ?_ _ | refine below_drewN ?_ _ | refine below_drew ?_ | refine below_set ?_ (by first | exact Nat.le_refl _ | omega | (simp; done) | (simp; omega)) _)⟩
    rw [HZ.out]
    exact (HN1.out.set_ g0 (by intro t; simp) _).set_ k2 (by intro t; simp) _
  · have hbn : ∃ b b2, b = decide (x < 0) ∧ b2 = decide (y < 0) ∧ (b == b2) = false := ⟨_, _, rfl, rfl, by simpa using hs⟩
    obtain ⟨b, b2, hb, hb2, hbb⟩ := hbn
    rw [← hb, ← hb2]
    have hxy : (x < 0 ∧ 0 ≤ y) ∨ (0 ≤ x ∧ y < 0) := by
      by_cases hx : x < 0 <;> by_cases hy : y < 0 <;> simp [hx, hy] at hs <;> omega
    have HC := Hd.mk (fun W hW => cmp_calls A1 c1 x.natAbs A2 c2 y.natAbs W (H1.out.to hW) (H2.out.to hW))
    rcases Nat.lt_trichotomy x.natAbs y.natAbs with hlt | heq | hgt
    · have hv : cmpv x.natAbs y.natAbs = -1 := by unfold cmpv; rw [if_pos hlt]
      have HV := Hd.mk hv
      have HZ : Hd ((x + y).natAbs = y.natAbs - x.natAbs) := ⟨by omega⟩
      have HS : Hd (decide (x + y < 0) = b2) := ⟨by rw [hb2]; apply decide_eq_decide.2; omega⟩
      have hle := Nat.le_of_lt hlt
      clear hs hb hb2 hxy hv hlt
      go_enter Try.func64, Try.ntmps64
      go_wp2_with (first | (go_at_call 115; refine (HC.out _ (by repeat (first | exact HB.out | exact Below.refl _ _ | refine below_alloc ?_ _ | refine below_drewN ?_ _ | refine below_drew ?_ | refine below_set ?_ (by first | exact Nat.le_refl _ | omega | (simp; done) | (simp; omega)) _))).mono ?_; rintro e w' ⟨rfl, q, rfl⟩; rw [HV.out]))
      have ne1 : w.heap.size + 1 + 1 ≠ w.heap.size := by omega
      have ne2 : w.heap.size + 1 + 1 ≠ w.heap.size + 1 := by omega
      have ne3 : w.heap.size + 1 ≠ w.heap.size := by omega
      go_region_held3 (fun w' => w'.cell? ⟨w.heap.size, 0, none⟩ = some (.bool b) ∧ w'.cell? ⟨w.heap.size, 1, none⟩ = some (.slice A1 (ln x.natAbs) c1) ∧ w'.cell? ⟨w.heap.size + 1, 0, none⟩ = some (.bool b2) ∧ w'.cell? ⟨w.heap.size + 1, 1, none⟩ = some (.slice A2 (ln y.natAbs) c2))
        (first | (go_keep; done) | ((repeat' apply And.intro) <;> (first | (go_keep; done) | (rw [hc1 _ _ (by first | (simp; done) | (simp; omega))]; go_keep) | (rw [World.cell?_setCell_far _ _ _ _ (by simp), World.cell?_setCell_far _ _ _ _ (by simp)]; rw [hc1 _ _ (by first | (simp; done) | (simp; omega))]; go_keep))))
        (first | (go_at_call 116; refine (sub_calls _ _ _ _ _ _ _ (H2.out.to (by repeat (first | exact HB.out | exact Below.refl _ _ | refine below_alloc ?_ _ | refine below_drewN ?_ _ | refine below_drew ?_ | refine below_set ?_ (by first | exact Nat.le_refl _ | omega | (simp; done) | (simp; omega)) _))) (H1.out.to (by repeat (first | exact HB.out | exact Below.refl _ _ | refine below_alloc ?_ _ | refine below_drewN ?_ _ | refine below_drew ?_ | refine below_set ?_ (by first | exact Nat.le_refl _ | omega | (simp; done) | (simp; omega)) _))) hle l2).mono ?_; rintro e w1 ⟨A3, c3, rfl, hn1, hb1⟩; obtain ⟨hc1, hf1⟩ := bcell hb1; have HN1 := Hd.mk hn1; have HB1 := Hd.mk hb1; clear hn1 hb1))
      go_wp2_with fail
      have HB : Hd (Below w.heap.size w w1) := ⟨bel_then (by repeat (first | exact HB.out | exact Below.refl _ _ | refine below_alloc ?_ _ | refine below_drewN ?_ _ | refine below_drew ?_ | refine below_set ?_ (by first | exact Nat.le_refl _ | omega | (simp; done) | (simp; omega)) _)) HB1.out⟩
      have g0 : w1.cell? ⟨w.heap.size + 1 + 1, 0, none⟩ = some (.bool false) := (hc1 _ _ (by simp)).trans ((blk_third w _ _ [.bool false, .slice none 0 0] 70).cell 0)
      have g1 : w1.cell? ⟨w.heap.size + 1 + 1, 1, none⟩ = some (.slice none 0 0) := (hc1 _ _ (by simp)).trans ((blk_third w _ _ [.bool false, .slice none 0 0] 70).cell 1)
      obtain ⟨k0, k1, k2⟩ := two_set g0 g1 (.bool b2) (.slice A3 (ln (y.natAbs - x.natAbs)) c3)
      refine bodyPost_ret (v := .agg #[.bool b2, .slice A3 (ln (y.natAbs - x.natAbs)) c3]) (by simp [results, Try.results64, go_sem, k0, k1]) rfl ?_
      refine ⟨A3, c3, by rw [HZ.out, HS.out], ?_, by repeat (first | exact HB.out | exact Below.refl _ _ | refine below_alloc ?_ _ | refine below_drewN ?_ _ | refine below_drew ?_ | refine below_set ?_ (by first | exact Nat.le_refl _ | omega | (simp; done) | (simp; omega)) _)⟩
      rw [HZ.out]
      exact (HN1.out.set_ g0 (by intro t; simp) _).set_ k2 (by intro t; simp) _
    · have hv : cmpv x.natAbs y.natAbs = 0 := by unfold cmpv; rw [if_neg (by omega), if_pos heq]
      have HV := Hd.mk hv
      have HZ : Hd (x + y = 0) := ⟨by omega⟩
      clear hs hb hb2 hxy hv heq
      go_enter Try.func64, Try.ntmps64
      go_wp2_with (first | (go_at_call 115; refine (HC.out _ (by repeat (first | exact HB.out | exact Below.refl _ _ | refine below_alloc ?_ _ | refine below_drewN ?_ _ | refine below_drew ?_ | refine below_set ?_ (by first | exact Nat.le_refl _ | omega | (simp; done) | (simp; omega)) _))).mono ?_; rintro e w' ⟨rfl, q, rfl⟩; rw [HV.out]))
      refine bodyPost_ret (v := .agg #[.bool false, .slice none 0 0]) (by simp [results, Try.results64, go_sem]) rfl ?_
      rw [HZ.out]
      exact ⟨none, 0, by rw [show ln (Int.natAbs 0) = 0 from ln_zero]; rfl, NN.nil _ _ _ (by omega), by repeat (first | exact HB.out | exact Below.refl _ _ | refine below_alloc ?_ _ | refine below_drewN ?_ _ | refine below_drew ?_ | refine below_set ?_ (by first | exact Nat.le_refl _ | omega | (simp; done) | (simp; omega)) _)⟩
    · have hv : cmpv x.natAbs y.natAbs = 1 := by unfold cmpv; rw [if_neg (by omega), if_neg (by omega)]
      have HV := Hd.mk hv
      have HZ : Hd ((x + y).natAbs = x.natAbs - y.natAbs) := ⟨by omega⟩
      have HS : Hd (decide (x + y < 0) = b) := ⟨by rw [hb]; apply decide_eq_decide.2; omega⟩
      have hle := Nat.le_of_lt hgt
      clear hs hb hb2 hxy hv hgt
      go_enter Try.func64, Try.ntmps64
      go_wp2_with (first | (go_at_call 115; refine (HC.out _ (by repeat (first | exact HB.out | exact Below.refl _ _ | refine below_alloc ?_ _ | refine below_drewN ?_ _ | refine below_drew ?_ | refine below_set ?_ (by first | exact Nat.le_refl _ | omega | (simp; done) | (simp; omega)) _))).mono ?_; rintro e w' ⟨rfl, q, rfl⟩; rw [HV.out]))
      have ne1 : w.heap.size + 1 + 1 ≠ w.heap.size := by omega
      have ne2 : w.heap.size + 1 + 1 ≠ w.heap.size + 1 := by omega
      have ne3 : w.heap.size + 1 ≠ w.heap.size := by omega
      go_region_held3 (fun w' => w'.cell? ⟨w.heap.size, 0, none⟩ = some (.bool b) ∧ w'.cell? ⟨w.heap.size, 1, none⟩ = some (.slice A1 (ln x.natAbs) c1) ∧ w'.cell? ⟨w.heap.size + 1, 0, none⟩ = some (.bool b2) ∧ w'.cell? ⟨w.heap.size + 1, 1, none⟩ = some (.slice A2 (ln y.natAbs) c2))
        (first | (go_keep; done) | ((repeat' apply And.intro) <;> (first | (go_keep; done) | (rw [hc1 _ _ (by first | (simp; done) | (simp; omega))]; go_keep) | (rw [World.cell?_setCell_far _ _ _ _ (by simp), World.cell?_setCell_far _ _ _ _ (by simp)]; rw [hc1 _ _ (by first | (simp; done) | (simp; omega))]; go_keep))))
        (first | (go_at_call 116; refine (sub_calls _ _ _ _ _ _ _ (H1.out.to (by repeat (first | exact HB.out | exact Below.refl _ _ | refine below_alloc ?_ _ | refine below_drewN ?_ _ | refine below_drew ?_ | refine below_set ?_ (by first | exact Nat.le_refl _ | omega | (simp; done) | (simp; omega)) _))) (H2.out.to (by repeat (first | exact HB.out | exact Below.refl _ _ | refine below_alloc ?_ _ | refine below_drewN ?_ _ | refine below_drew ?_ | refine below_set ?_ (by first | exact Nat.le_refl _ | omega | (simp; done) | (simp; omega)) _))) hle l1).mono ?_; rintro e w1 ⟨A3, c3, rfl, hn1, hb1⟩; obtain ⟨hc1, hf1⟩ := bcell hb1; have HN1 := Hd.mk hn1; have HB1 := Hd.mk hb1; clear hn1 hb1))
      go_wp2_with fail
      have HB : Hd (Below w.heap.size w w1) := ⟨bel_then (by repeat (first | exact HB.out | exact Below.refl _ _ | refine below_alloc ?_ _ | refine below_drewN ?_ _ | refine below_drew ?_ | refine below_set ?_ (by first | exact Nat.le_refl _ | omega | (simp; done) | (simp; omega)) _)) HB1.out⟩
      have g0 : w1.cell? ⟨w.heap.size + 1 + 1, 0, none⟩ = some (.bool false) := (hc1 _ _ (by simp)).trans ((blk_third w _ _ [.bool false, .slice none 0 0] 70).cell 0)
      have g1 : w1.cell? ⟨w.heap.size + 1 + 1, 1, none⟩ = some (.slice none 0 0) := (hc1 _ _ (by simp)).trans ((blk_third w _ _ [.bool false, .slice none 0 0] 70).cell 1)
      obtain ⟨k0, k1, k2⟩ := two_set g0 g1 (.bool b) (.slice A3 (ln (x.natAbs - y.natAbs)) c3)
      refine bodyPost_ret (v := .agg #[.bool b, .slice A3 (ln (x.natAbs - y.natAbs)) c3]) (by simp [results, Try.results64, go_sem, k0, k1]) rfl ?_
      refine ⟨A3, c3, by rw [HZ.out, HS.out], ?_, by repeat (first | exact HB.out | exact Below.refl _ _ | refine below_alloc ?_ _ | refine below_drewN ?_ _ | refine below_drew ?_ | refine below_set ?_ (by first | exact Nat.le_refl _ | omega | (simp; done) | (simp; omega)) _)⟩
      rw [HZ.out]
      exact (HN1.out.set_ g0 (by intro t; simp) _).set_ k2 (by intro t; simp) _
end Go.Proofs.Ytcjcpfafalkceaa
