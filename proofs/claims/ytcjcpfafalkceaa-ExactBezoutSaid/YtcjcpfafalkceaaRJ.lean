/- ints as whole numbers. -/
import Derived.Test.YtcjcpfafalkceaaRI
import Derived.Test.YtcjcpfafalkceaaO
set_option linter.unusedVariables false
namespace Go.Proofs.Ytcjcpfafalkceaa
open Go.RowKit
theorem run_fld_whole (b s : Value) (W : World) : (Instr.field 70 (.agg #[b, s]) 1).run Try.prog W = .ok s W := by
  simp [Instr.field, run_underlying Try.underlying70, asAgg, go_sem]
theorem run_fld_Z (b s : Value) (W : World) : (Instr.field 38 (.agg #[b, s]) 1).run Try.prog W = .ok s W := by
  simp [Instr.field, run_underlying Try.underlying38, asAgg, go_sem]
attribute [local go_sem] run_fld_whole run_fld_Z
theorem ln_two {n : Int} (h1 : -9223372036854775808 ≤ n) (h2 : n ≤ 9223372036854775807) : ln n.natAbs ≤ 2 := by
  apply ln_le
  have h3 : B ^ 2 = 18446744073709551616 := by decide
  rw [h3]
  omega
theorem wrap_neg {n : Int} (h1 : -9223372036854775808 ≤ n) (h : n < 0) : IntKind.u64.wrap (-IntKind.u64.wrap n) = ((n.natAbs : Nat) : Int) := by
  rw [IntKind.wrap_u64, IntKind.wrap_u64]
  omega
set_option maxRecDepth 100000 in
theorem Whole_calls (n : Int) (w : World) (h1 : -9223372036854775808 ≤ n) (h2 : n ≤ 9223372036854775807) :
    Calls Try.prog 24 #[.int .i64 n] w (RetZ n w) := by
  by_cases hn : n < 0
  · have HC : Hd (∀ W, Calls Try.prog 73 #[.int .u64 (-(n + 1) + 1)] W (RetN n.natAbs W)) := ⟨fun W => by rw [show -(n + 1) + 1 = ((n.natAbs : Nat) : Int) from by omega]; exact natural_calls _ (ln_two h1 h2) W⟩
    have HD := Hd.mk (decide_eq_true hn)
    go_enter Try.func24, Try.ntmps24
    go_wp2_with fail
    refine (HC.out _).mono ?_
    rintro e w1 ⟨A3, c3, rfl, hn1, hb1⟩
    obtain ⟨hc1, hf1⟩ := bcell hb1
    have hz1 : w.heap.size < w1.heap.size := by have := hb1.size; simp at this; omega
    have HN := Hd.mk hn1
    have HB : Hd (Below w.heap.size w w1) := ⟨bel_then (by repeat (first | exact HB.out | exact Below.refl _ _ | refine below_alloc ?_ _ | refine below_drewN ?_ _ | refine below_drew ?_ | refine below_set ?_ (by first | exact Nat.le_refl _ | omega | (simp; done) | (simp; omega)) _)) hb1⟩
    clear hn1 hb1
    go_wp2_with fail
    have g0 : w1.cell? ⟨w.heap.size, 0, none⟩ = some (.bool false) := (hc1 _ _ (by simp)).trans (blk_new (W := w) rfl [.bool false, .slice none 0 0] 38).c0
    have g1 : w1.cell? ⟨w.heap.size, 1, none⟩ = some (.slice none 0 0) := (hc1 _ _ (by simp)).trans (blk_new (W := w) rfl [.bool false, .slice none 0 0] 38).c1
    obtain ⟨k0, k1, k2⟩ := two_set g0 g1 (.bool true) (.slice A3 (ln n.natAbs) c3)
    refine bodyPost_ret (v := .agg #[.bool true, .slice A3 (ln n.natAbs) c3]) (by simp [results, Try.results24, go_sem, k0, k1]) rfl ?_
    exact ⟨A3, c3, by rw [HD.out], (HN.out.set_ g0 (by intro t; simp) _).set_ k2 (by intro t; simp) _, by repeat (first | exact HB.out | exact Below.refl _ _ | refine below_alloc ?_ _ | refine below_drewN ?_ _ | refine below_drew ?_ | refine below_set ?_ (by first | exact Nat.le_refl _ | omega | (simp; done) | (simp; omega)) _)⟩
  · have HC : Hd (∀ W, Calls Try.prog 73 #[.int .u64 n] W (RetN n.natAbs W)) := ⟨fun W => by have := natural_calls n.natAbs (ln_two h1 h2) W; rwa [show ((n.natAbs : Nat) : Int) = n from by omega] at this⟩
    have HD := Hd.mk (decide_eq_false hn)
    go_enter Try.func24, Try.ntmps24
    go_wp2_with fail
    refine (HC.out _).mono ?_
    rintro e w1 ⟨A3, c3, rfl, hn1, hb1⟩
    obtain ⟨hc1, hf1⟩ := bcell hb1
    have hz1 : w.heap.size < w1.heap.size := by have := hb1.size; simp at this; omega
    have HN := Hd.mk hn1
    have HB : Hd (Below w.heap.size w w1) := ⟨bel_then (by repeat (first | exact HB.out | exact Below.refl _ _ | refine below_alloc ?_ _ | refine below_drewN ?_ _ | refine below_drew ?_ | refine below_set ?_ (by first | exact Nat.le_refl _ | omega | (simp; done) | (simp; omega)) _)) hb1⟩
    clear hn1 hb1
    go_wp2_with fail
    have g0 : w1.cell? ⟨w.heap.size, 0, none⟩ = some (.bool false) := (hc1 _ _ (by simp)).trans (blk_new (W := w) rfl [.bool false, .slice none 0 0] 38).c0
    have g1 : w1.cell? ⟨w.heap.size, 1, none⟩ = some (.slice none 0 0) := (hc1 _ _ (by simp)).trans (blk_new (W := w) rfl [.bool false, .slice none 0 0] 38).c1
    obtain ⟨k0, k1, k2⟩ := two_set g0 g1 (.bool false) (.slice A3 (ln n.natAbs) c3)
    refine bodyPost_ret (v := .agg #[.bool false, .slice A3 (ln n.natAbs) c3]) (by simp [results, Try.results24, go_sem, k0, k1]) rfl ?_
    exact ⟨A3, c3, by rw [HD.out], (HN.out.set_ g0 (by intro t; simp) _).set_ k2 (by intro t; simp) _, by repeat (first | exact HB.out | exact Below.refl _ _ | refine below_alloc ?_ _ | refine below_drewN ?_ _ | refine below_drew ?_ | refine below_set ?_ (by first | exact Nat.le_refl _ | omega | (simp; done) | (simp; omega)) _)⟩
set_option maxRecDepth 100000 in
theorem ofInt_calls (n : Int) (w : World) (h1 : -9223372036854775808 ≤ n) (h2 : n ≤ 9223372036854775807) :
    Calls Try.prog 71 #[.int .i64 n] w (RetZ n w) := by
  have hB : n.natAbs / B < B := by unfold B; omega
  by_cases hn : n < 0
  · have HC : Hd (∀ W, Calls Try.prog 78 #[.int .u64 (IntKind.u64.wrap (-IntKind.u64.wrap n))] W (RetN n.natAbs W)) := ⟨fun W => by rw [wrap_neg h1 hn]; exact small_calls _ hB W⟩
    have HD := Hd.mk (decide_eq_true hn)
    clear hB
    go_enter Try.func71, Try.ntmps71
    go_wp2_with fail
    refine (HC.out _).mono ?_
    rintro e w1 ⟨A3, c3, rfl, hn1, hb1⟩
    obtain ⟨hc1, hf1⟩ := bcell hb1
    have hz1 : w.heap.size < w1.heap.size := by have := hb1.size; simp at this; omega
    have HN := Hd.mk hn1
    have HB : Hd (Below w.heap.size w w1) := ⟨bel_then (by repeat (first | exact HB.out | exact Below.refl _ _ | refine below_alloc ?_ _ | refine below_drewN ?_ _ | refine below_drew ?_ | refine below_set ?_ (by first | exact Nat.le_refl _ | omega | (simp; done) | (simp; omega)) _)) hb1⟩
    clear hn1 hb1
    go_wp2_with fail
    have g0 : w1.cell? ⟨w.heap.size, 0, none⟩ = some (.bool false) := (hc1 _ _ (by simp)).trans (blk_new (W := w) rfl [.bool false, .slice none 0 0] 70).c0
    have g1 : w1.cell? ⟨w.heap.size, 1, none⟩ = some (.slice none 0 0) := (hc1 _ _ (by simp)).trans (blk_new (W := w) rfl [.bool false, .slice none 0 0] 70).c1
    obtain ⟨k0, k1, k2⟩ := two_set g0 g1 (.bool true) (.slice A3 (ln n.natAbs) c3)
    refine bodyPost_ret (v := .agg #[.bool true, .slice A3 (ln n.natAbs) c3]) (by simp [results, Try.results71, go_sem, k0, k1]) rfl ?_
    exact ⟨A3, c3, by rw [HD.out], (HN.out.set_ g0 (by intro t; simp) _).set_ k2 (by intro t; simp) _, by repeat (first | exact HB.out | exact Below.refl _ _ | refine below_alloc ?_ _ | refine below_drewN ?_ _ | refine below_drew ?_ | refine below_set ?_ (by first | exact Nat.le_refl _ | omega | (simp; done) | (simp; omega)) _)⟩
  · have HC : Hd (∀ W, Calls Try.prog 78 #[.int .u64 n] W (RetN n.natAbs W)) := ⟨fun W => by have := small_calls n.natAbs hB W; rwa [show ((n.natAbs : Nat) : Int) = n from by omega] at this⟩
    have HD := Hd.mk (decide_eq_false hn)
    clear hB
    go_enter Try.func71, Try.ntmps71
    go_wp2_with fail
    refine (HC.out _).mono ?_
    rintro e w1 ⟨A3, c3, rfl, hn1, hb1⟩
    obtain ⟨hc1, hf1⟩ := bcell hb1
    have hz1 : w.heap.size < w1.heap.size := by have := hb1.size; simp at this; omega
    have HN := Hd.mk hn1
    have HB : Hd (Below w.heap.size w w1) := ⟨bel_then (by repeat (first | exact HB.out | exact Below.refl _ _ | refine below_alloc ?_ _ | refine below_drewN ?_ _ | refine below_drew ?_ | refine below_set ?_ (by first | exact Nat.le_refl _ | omega | (simp; done) | (simp; omega)) _)) hb1⟩
    clear hn1 hb1
    go_wp2_with fail
    have g0 : w1.cell? ⟨w.heap.size, 0, none⟩ = some (.bool false) := (hc1 _ _ (by simp)).trans (blk_new (W := w) rfl [.bool false, .slice none 0 0] 70).c0
    have g1 : w1.cell? ⟨w.heap.size, 1, none⟩ = some (.slice none 0 0) := (hc1 _ _ (by simp)).trans (blk_new (W := w) rfl [.bool false, .slice none 0 0] 70).c1
    obtain ⟨k0, k1, k2⟩ := two_set g0 g1 (.bool false) (.slice A3 (ln n.natAbs) c3)
    refine bodyPost_ret (v := .agg #[.bool false, .slice A3 (ln n.natAbs) c3]) (by simp [results, Try.results71, go_sem, k0, k1]) rfl ?_
    exact ⟨A3, c3, by rw [HD.out], (HN.out.set_ g0 (by intro t; simp) _).set_ k2 (by intro t; simp) _, by repeat (first | exact HB.out | exact Below.refl _ _ | refine below_alloc ?_ _ | refine below_drewN ?_ _ | refine below_drew ?_ | refine below_set ?_ (by first | exact Nat.le_refl _ | omega | (simp; done) | (simp; omega)) _)⟩
set_option maxRecDepth 100000 in
theorem FromInt_calls (n : Int) (w : World) (h1 : -9223372036854775808 ≤ n) (h2 : n ≤ 9223372036854775807) :
    Calls Try.prog 20 #[.int .i64 n] w (RetZ n w) := by
  have hl := ln_two h1 h2
  have HO := Hd.mk (fun W => ofInt_calls n W h1 h2)
  have HV := Hd.mk (fun A c W h => value_calls n A c W h (by omega))
  obtain ⟨b, hb⟩ : ∃ b, b = decide (n < 0) := ⟨_, rfl⟩
  rw [← hb] at HV
  have HBB := Hd.mk hb
  clear hb
  go_enter Try.func20, Try.ntmps20
  go_wp2_with fail
  refine (HO.out _).mono ?_
  rintro e w0 ⟨A2, c2, rfl, hn0, hb0⟩
  rw [← HBB.out]
  have HN0 := Hd.mk hn0
  have HB0 := Hd.mk hb0
  clear hn0 hb0
  go_wp2_with fail
  refine (HV.out _ _ _ HN0.out).mono ?_
  rintro e w1 ⟨A3, c3, rfl, hn1, hb1⟩
  rw [← HBB.out]
  have HB1 := Hd.mk (bel_then HB0.out hb1)
  have HN := Hd.mk hn1
  obtain ⟨hc1, hf1⟩ := bcell HB1.out
  have hz1 : w.heap.size < w1.heap.size := by have := HB1.out.size; simp at this; omega
  have HB : Hd (Below w.heap.size w w1) := ⟨bel_then (by repeat (first | exact HB.out | exact Below.refl _ _ | refine below_alloc ?_ _ | refine below_drewN ?_ _ | refine below_drew ?_ | refine below_set ?_ (by first | exact Nat.le_refl _ | omega | (simp; done) | (simp; omega)) _)) HB1.out⟩
  clear hn1 hb1
  go_wp2_with fail
  have g0 : w1.cell? ⟨w.heap.size, 0, none⟩ = some (.bool false) := (hc1 _ _ (by simp)).trans (blk_new (W := w) rfl [.bool false, .slice none 0 0] 24).c0
  have g1 : w1.cell? ⟨w.heap.size, 1, none⟩ = some (.slice none 0 0) := (hc1 _ _ (by simp)).trans (blk_new (W := w) rfl [.bool false, .slice none 0 0] 24).c1
  obtain ⟨k0, k1, k2⟩ := two_set g0 g1 (.bool b) (.slice A3 (ln n.natAbs) c3)
  refine bodyPost_ret (v := .agg #[.bool b, .slice A3 (ln n.natAbs) c3]) (by simp [results, Try.results20, go_sem, k0, k1]) rfl ?_
  exact ⟨A3, c3, by rw [HBB.out], (HN.out.set_ g0 (by intro t; simp) _).set_ k2 (by intro t; simp) _, by repeat (first | exact HB.out | exact Below.refl _ _ | refine below_alloc ?_ _ | refine below_drewN ?_ _ | refine below_drew ?_ | refine below_set ?_ (by first | exact Nat.le_refl _ | omega | (simp; done) | (simp; omega)) _)⟩
set_option maxRecDepth 100000 in
theorem Valid_calls (x : Raw) (w : World) (hx : x.at_ w) :
    Calls Try.prog 21 #[x.v] w fun e w' => e = .returned (.bool x.ok) ∧ Below w.heap.size w w' := by
  have HV := Hd.mk (fun g W (h : Below w.heap.size w W) (hB : Blk W g 24 [.bool x.neg, .slice x.A x.xs.length x.c]) => valid_calls [x] g 1 W (raws_one h hx hB) rfl (by omega))
  rw [all_one] at HV
  unfold Raw.v
  clear hx
  obtain ⟨o, ho⟩ : ∃ o, o = x.ok := ⟨_, rfl⟩
  rw [← ho] at HV ⊢
  clear ho
  go_enter Try.func21, Try.ntmps21
  go_wp2_with fail
  obtain ⟨W0, hW0⟩ : ∃ W : World, W = w.alloc (.cells #[.bool x.neg, .slice x.A x.xs.length x.c] 24) := ⟨_, rfl⟩
  rw [← hW0]
  have HSZ : Hd (w.heap.size + 1 = W0.heap.size) := ⟨by rw [hW0]; simp⟩
  obtain ⟨hB0, hBW⟩ := boxes1 hW0
  have q0 := hB0.c0
  have q1 := hB0.c1
  have Q0 := Hd.mk hB0
  have HW := Hd.mk hBW
  have HB : Hd (Below W0.heap.size W0 W0) := ⟨Below.refl _ _⟩
  clear hB0 hBW hW0
  refine (HV.out _ _ (bel_then HW.out (by repeat (first | exact HB.out | exact Below.refl _ _ | refine below_alloc ?_ _ | refine below_drewN ?_ _ | refine below_drew ?_ | refine below_set ?_ (by first | exact Nat.le_refl _ | omega | (simp; done) | (simp; omega)) _))) (blk_new HSZ.out _ _)).mono ?_
  rintro e w1 ⟨rfl, hb1⟩
  have HB' : Hd (Below W0.heap.size W0 _) := ⟨bel_then (by repeat (first | exact HB.out | exact Below.refl _ _ | refine below_alloc ?_ _ | refine below_drewN ?_ _ | refine below_drew ?_ | refine below_set ?_ (by first | exact Nat.le_refl _ | omega | (simp; done) | (simp; omega)) _)) hb1⟩; clear HB; have HB := HB'; clear HB' hb1; replace q0 := (Q0.out.to HB.out).c0; replace q1 := (Q0.out.to HB.out).c1
  go_wp2_with fail
  go_ret
  exact ⟨rfl, bel_then HW.out HB.out⟩
/-- How many bits the absolute value of an Int has, and the code. -/
def bitr (x : Raw) : Int := if x.ok = true then (nbits x.val.natAbs : Int) else 0
def bite (x : Raw) : Int := if x.ok = true then 0 else 2
set_option maxRecDepth 100000 in
theorem Bits_calls (x : Raw) (w : World) (hx : x.at_ w) :
    Calls Try.prog 38 #[x.v] w fun e w' => e = .returned (.tuple #[.int .i64 (bitr x), .int .i64 (bite x)]) ∧ Below w.heap.size w w' := by
  have HV := Hd.mk (fun g W (h : Below w.heap.size w W) (hB : Blk W g 24 [.bool x.neg, .slice x.A x.xs.length x.c]) => valid_calls [x] g 1 W (raws_one h hx hB) rfl (by omega))
  rw [all_one] at HV
  unfold bitr bite
  by_cases hok : x.ok = true
  · rw [hok] at HV ⊢
    rw [if_pos rfl, if_pos rfl]
    have hl := Raw.ok_len hok hx.2.1
    have HP := Hd.mk (fun W (hW : Below w.heap.size w W) => bits_calls x.A x.c x.val.natAbs W ((Raw.nn hok hx).to hW) (by omega))
    rw [(Raw.num hok hx.2.1).2] at HP
    obtain ⟨v, hv⟩ : ∃ v, v = nbits x.val.natAbs := ⟨_, rfl⟩
    rw [← hv] at HP ⊢
    unfold Raw.v
    clear hx hok hv hl
    go_enter Try.func38, Try.ntmps38
    go_wp2_with fail
    obtain ⟨W0, hW0⟩ : ∃ W : World, W = w.alloc (.cells #[.bool x.neg, .slice x.A x.xs.length x.c] 24) := ⟨_, rfl⟩
    rw [← hW0]
    have HSZ : Hd (w.heap.size + 1 = W0.heap.size) := ⟨by rw [hW0]; simp⟩
    obtain ⟨hB0, hBW⟩ := boxes1 hW0
    have q0 := hB0.c0
    have q1 := hB0.c1
    have Q0 := Hd.mk hB0
    have HW := Hd.mk hBW
    have HB : Hd (Below W0.heap.size W0 W0) := ⟨Below.refl _ _⟩
    clear hB0 hBW hW0
    refine (HV.out _ _ (bel_then HW.out (by repeat (first | exact HB.out | exact Below.refl _ _ | refine below_alloc ?_ _ | refine below_drewN ?_ _ | refine below_drew ?_ | refine below_set ?_ (by first | exact Nat.le_refl _ | omega | (simp; done) | (simp; omega)) _))) (blk_new HSZ.out _ _)).mono ?_
    rintro e w1 ⟨rfl, hb1⟩
    have HB' : Hd (Below W0.heap.size W0 _) := ⟨bel_then (by repeat (first | exact HB.out | exact Below.refl _ _ | refine below_alloc ?_ _ | refine below_drewN ?_ _ | refine below_drew ?_ | refine below_set ?_ (by first | exact Nat.le_refl _ | omega | (simp; done) | (simp; omega)) _)) hb1⟩; clear HB; have HB := HB'; clear HB' hb1; replace q0 := (Q0.out.to HB.out).c0; replace q1 := (Q0.out.to HB.out).c1
    go_wp2_with fail
    refine (of_calls _ _ _ _ _).mono ?_
    rintro e w2 ⟨rfl, hb2⟩
    have HB' : Hd (Below W0.heap.size W0 _) := ⟨bel_then (by repeat (first | exact HB.out | exact Below.refl _ _ | refine below_alloc ?_ _ | refine below_drewN ?_ _ | refine below_drew ?_ | refine below_set ?_ (by first | exact Nat.le_refl _ | omega | (simp; done) | (simp; omega)) _)) hb2⟩; clear HB; have HB := HB'; clear HB' hb2; replace q0 := (Q0.out.to HB.out).c0; replace q1 := (Q0.out.to HB.out).c1
    go_wp2_with fail
    refine (HP.out _ (bel_then HW.out HB.out)).mono ?_
    rintro e w3 ⟨rfl, rfl⟩
    go_wp2_with fail
    go_ret2
    exact ⟨rfl, bel_then HW.out HB.out⟩
  · have hno : x.ok = false := by simpa using hok
    rw [hno] at HV ⊢
    rw [if_neg (by simp), if_neg (by simp)]
    unfold Raw.v
    clear hx hok hno
    go_enter Try.func38, Try.ntmps38
    go_wp2_with fail
    obtain ⟨W0, hW0⟩ : ∃ W : World, W = w.alloc (.cells #[.bool x.neg, .slice x.A x.xs.length x.c] 24) := ⟨_, rfl⟩
    rw [← hW0]
    have HSZ : Hd (w.heap.size + 1 = W0.heap.size) := ⟨by rw [hW0]; simp⟩
    obtain ⟨hB0, hBW⟩ := boxes1 hW0
    have q0 := hB0.c0
    have q1 := hB0.c1
    have Q0 := Hd.mk hB0
    have HW := Hd.mk hBW
    have HB : Hd (Below W0.heap.size W0 W0) := ⟨Below.refl _ _⟩
    clear hB0 hBW hW0
    refine (HV.out _ _ (bel_then HW.out (by repeat (first | exact HB.out | exact Below.refl _ _ | refine below_alloc ?_ _ | refine below_drewN ?_ _ | refine below_drew ?_ | refine below_set ?_ (by first | exact Nat.le_refl _ | omega | (simp; done) | (simp; omega)) _))) (blk_new HSZ.out _ _)).mono ?_
    rintro e w1 ⟨rfl, hb1⟩
    have HB' : Hd (Below W0.heap.size W0 _) := ⟨bel_then (by repeat (first | exact HB.out | exact Below.refl _ _ | refine below_alloc ?_ _ | refine below_drewN ?_ _ | refine below_drew ?_ | refine below_set ?_ (by first | exact Nat.le_refl _ | omega | (simp; done) | (simp; omega)) _)) hb1⟩; clear HB; have HB := HB'; clear HB' hb1; replace q0 := (Q0.out.to HB.out).c0; replace q1 := (Q0.out.to HB.out).c1
    go_wp2_with fail
    go_ret2
    exact ⟨rfl, bel_then HW.out HB.out⟩
set_option maxRecDepth 100000 in
theorem rBits_calls (x : Raw) (w : World) (hx : x.at_ w) :
    Calls Try.prog 39 #[x.v] w fun e w' => e = .returned (.tuple #[.int .i64 (bitr x), .int .i64 (bite x)]) ∧ Below w.heap.size w w' := by
  have HV := Hd.mk (fun W (hW : Below w.heap.size w W) => rvalid_calls x W (Raw.at_to hx hW))
  unfold bitr bite
  by_cases hok : x.ok = true
  · rw [hok] at HV ⊢
    rw [if_pos rfl, if_pos rfl]
    have hl := Raw.ok_len hok hx.2.1
    have HP := Hd.mk (fun W (hW : Below w.heap.size w W) => rbits_calls x.A x.c x.val.natAbs W ((Raw.nn hok hx).to hW) (by omega))
    rw [(Raw.num hok hx.2.1).2] at HP
    obtain ⟨v, hv⟩ : ∃ v, v = nbits x.val.natAbs := ⟨_, rfl⟩
    rw [← hv] at HP ⊢
    unfold Raw.v at HV ⊢
    clear hx hok hv hl
    go_enter Try.func39, Try.ntmps39
    go_wp2_with fail
    obtain ⟨W0, hW0⟩ : ∃ W : World, W = w.alloc (.cells #[.bool x.neg, .slice x.A x.xs.length x.c] 24) := ⟨_, rfl⟩
    rw [← hW0]
    have HSZ : Hd (w.heap.size + 1 = W0.heap.size) := ⟨by rw [hW0]; simp⟩
    obtain ⟨hB0, hBW⟩ := boxes1 hW0
    have q0 := hB0.c0
    have q1 := hB0.c1
    have Q0 := Hd.mk hB0
    have HW := Hd.mk hBW
    have HB : Hd (Below W0.heap.size W0 W0) := ⟨Below.refl _ _⟩
    clear hB0 hBW hW0
    refine (HV.out _ HW.out).mono ?_
    rintro e w1 ⟨rfl, hb1⟩
    have HB' : Hd (Below W0.heap.size W0 _) := ⟨bel_then (by repeat (first | exact HB.out | exact Below.refl _ _ | refine below_alloc ?_ _ | refine below_drewN ?_ _ | refine below_drew ?_ | refine below_set ?_ (by first | exact Nat.le_refl _ | omega | (simp; done) | (simp; omega)) _)) hb1⟩; clear HB; have HB := HB'; clear HB' hb1; replace q0 := (Q0.out.to HB.out).c0; replace q1 := (Q0.out.to HB.out).c1
    go_wp2_with fail
    refine (rOf_calls _ _ _ _ _).mono ?_
    rintro e w2 ⟨rfl, hb2⟩
    have HB' : Hd (Below W0.heap.size W0 _) := ⟨bel_then (by repeat (first | exact HB.out | exact Below.refl _ _ | refine below_alloc ?_ _ | refine below_drewN ?_ _ | refine below_drew ?_ | refine below_set ?_ (by first | exact Nat.le_refl _ | omega | (simp; done) | (simp; omega)) _)) hb2⟩; clear HB; have HB := HB'; clear HB' hb2; replace q0 := (Q0.out.to HB.out).c0; replace q1 := (Q0.out.to HB.out).c1
    go_wp2_with fail
    refine (HP.out _ (bel_then HW.out HB.out)).mono ?_
    rintro e w3 ⟨rfl, rfl⟩
    go_wp2_with fail
    go_ret2
    exact ⟨rfl, bel_then HW.out HB.out⟩
  · have hno : x.ok = false := by simpa using hok
    rw [hno] at HV ⊢
    rw [if_neg (by simp), if_neg (by simp)]
    unfold Raw.v at HV ⊢
    clear hx hok hno
    go_enter Try.func39, Try.ntmps39
    go_wp2_with fail
    obtain ⟨W0, hW0⟩ : ∃ W : World, W = w.alloc (.cells #[.bool x.neg, .slice x.A x.xs.length x.c] 24) := ⟨_, rfl⟩
    rw [← hW0]
    have HSZ : Hd (w.heap.size + 1 = W0.heap.size) := ⟨by rw [hW0]; simp⟩
    obtain ⟨hB0, hBW⟩ := boxes1 hW0
    have q0 := hB0.c0
    have q1 := hB0.c1
    have Q0 := Hd.mk hB0
    have HW := Hd.mk hBW
    have HB : Hd (Below W0.heap.size W0 W0) := ⟨Below.refl _ _⟩
    clear hB0 hBW hW0
    refine (HV.out _ HW.out).mono ?_
    rintro e w1 ⟨rfl, hb1⟩
    have HB' : Hd (Below W0.heap.size W0 _) := ⟨bel_then (by repeat (first | exact HB.out | exact Below.refl _ _ | refine below_alloc ?_ _ | refine below_drewN ?_ _ | refine below_drew ?_ | refine below_set ?_ (by first | exact Nat.le_refl _ | omega | (simp; done) | (simp; omega)) _)) hb1⟩; clear HB; have HB := HB'; clear HB' hb1; replace q0 := (Q0.out.to HB.out).c0; replace q1 := (Q0.out.to HB.out).c1
    go_wp2_with fail
    go_ret2
    exact ⟨rfl, bel_then HW.out HB.out⟩
end Go.Proofs.Ytcjcpfafalkceaa
