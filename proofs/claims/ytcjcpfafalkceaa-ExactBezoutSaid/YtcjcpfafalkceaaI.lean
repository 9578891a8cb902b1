/- Whole numbers that fit. -/
import Derived.Test.YtcjcpfafalkceaaH
set_option linter.unusedVariables false
namespace Go.Proofs.Ytcjcpfafalkceaa
open Go.RowKit
set_option maxRecDepth 100000 in
theorem fits_calls (z : Int) (A : Option Addr) (c : Nat) (w : World) (h : NN w A c z.natAbs) (l1 : ln z.natAbs ≤ 1073741824) :
    Calls Try.prog 85 #[.agg #[.bool (decide (z < 0)), .slice A (ln z.natAbs) c]] w (RetZE (fitz z) (fite z) w) := by
  have H1 := Hd.mk h
  clear h
  by_cases hf : ln z.natAbs ≤ 256
  · have e1 : fitz z = z := if_pos hf
    have e2 : fite z = 0 := if_pos hf
    rw [e1, e2]
    clear e1 e2
    obtain ⟨b, hb⟩ : ∃ b, b = decide (z < 0) := ⟨_, rfl⟩
    have HV := Hd.mk (fun W hW => value_calls z A c W (H1.out.to hW) l1)
    rw [← hb] at HV ⊢
    have HBB := Hd.mk hb
    clear hb
    go_enter Try.func85, Try.ntmps85
    go_wp2_with (first | (go_at_call 72; refine (HV.out _ (by repeat (first | exact HB.out | exact Below.refl _ _ | refine below_alloc ?_ _ | refine below_drewN ?_ _ | refine below_drew ?_ | refine below_set ?_ (by first | exact Nat.le_refl _ | omega | (simp; done) | (simp; omega)) _))).mono ?_; rintro e w1 ⟨A3, c3, rfl, hn1, hb1⟩; rw [← HBB.out]; obtain ⟨hc1, hf1⟩ := bcell hb1; have hz1 : w.heap.size + 1 < w1.heap.size := (by have := hb1.size; simp at this; omega); have HN1 := Hd.mk hn1; have HB : Hd (Below w.heap.size w w1) := ⟨bel_then (by repeat (first | exact HB.out | exact Below.refl _ _ | refine below_alloc ?_ _ | refine below_drewN ?_ _ | refine below_drew ?_ | refine below_set ?_ (by first | exact Nat.le_refl _ | omega | (simp; done) | (simp; omega)) _)) hb1⟩; clear hn1 hb1))
    have g0 : w1.cell? ⟨w.heap.size + 1, 0, none⟩ = some (.bool false) := (hc1 _ _ (by simp)).trans ((blk_second w _ [.bool false, .slice none 0 0] 24).cell 0)
    have g1 : w1.cell? ⟨w.heap.size + 1, 1, none⟩ = some (.slice none 0 0) := (hc1 _ _ (by simp)).trans ((blk_second w _ [.bool false, .slice none 0 0] 24).cell 1)
    obtain ⟨k0, k1, k2⟩ := two_set g0 g1 (.bool b) (.slice A3 (ln z.natAbs) c3)
    refine bodyPost_ret (v := .tuple #[.agg #[.bool b, .slice A3 (ln z.natAbs) c3], .int .i64 0]) (by simp [results, Try.results85, go_sem, k0, k1]) rfl ?_
    exact ⟨A3, c3, by rw [HBB.out], (HN1.out.set_ g0 (by intro t; simp) _).set_ k2 (by intro t; simp) _, by repeat (first | exact HB.out | exact Below.refl _ _ | refine below_alloc ?_ _ | refine below_drewN ?_ _ | refine below_drew ?_ | refine below_set ?_ (by first | exact Nat.le_refl _ | omega | (simp; done) | (simp; omega)) _)⟩
  · have e1 : fitz z = 0 := if_neg hf
    have e2 : fite z = 5 := if_neg hf
    rw [e1, e2]
    obtain ⟨b, hb⟩ : ∃ b, b = decide (z < 0) := ⟨_, rfl⟩
    rw [← hb]
    clear e1 e2 hb
    have hf' : (256 : Int) < (ln z.natAbs : Int) := by omega
    go_enter Try.func85, Try.ntmps85
    go_wp2_with fail
    refine bodyPost_ret (v := .tuple #[.agg #[.bool false, .slice none 0 0], .int .i64 5]) (by simp [results, Try.results85, go_sem]) rfl ?_
    exact ⟨none, 0, by rw [show ln (Int.natAbs 0) = 0 from ln_zero]; rfl, NN.nil _ _ _ (by omega), by repeat (first | exact HB.out | exact Below.refl _ _ | refine below_alloc ?_ _ | refine below_drewN ?_ _ | refine below_drew ?_ | refine below_set ?_ (by first | exact Nat.le_refl _ | omega | (simp; done) | (simp; omega)) _)⟩
end Go.Proofs.Ytcjcpfafalkceaa
