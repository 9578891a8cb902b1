/- Part 4 of the texts behind this claim. -/
import Derived.Maps.AppendAt
import Derived.Deep.AppendLies
import Derived.RegionTactic
import Derived.Laws.OwnMore
import Derived.Deep.RegionWith
import Derived.BigRegion
import Derived.Test.YtddbmckbankmeaaGreatKc1
import Derived.Test.YtddbmckbankmeaaGreatKc3
set_option linter.unusedVariables false
set_option linter.unusedSimpArgs false
namespace Go.Proofs.YtddbmckbankmeaaGreat
open Go.RowKit
theorem mul_small {a b : Int} (ha : 0 ≤ a ∧ a ≤ 8) (hb : 0 ≤ b ∧ b ≤ 8) : 0 ≤ a * b ∧ a * b ≤ 64 := by
 obtain ⟨n, rfl⟩ : ∃ n : Nat, a = n := ⟨a.toNat, by omega⟩; obtain ⟨m, rfl⟩ : ∃ n : Nat, b = n := ⟨b.toNat, by omega⟩; have := Nat.mul_le_mul (show n ≤ 8 by omega) (show m ≤ 8 by omega); exact ⟨by rw [← Int.natCast_mul]; omega, by rw [← Int.natCast_mul]; omega⟩
structure Okm (W H x y t : Int) : Prop where
 w : 1 ≤ W ∧ W ≤ 8
 h : 1 ≤ H ∧ H ≤ 8
 x : 0 ≤ x ∧ x < W
 y : 0 ≤ y ∧ y < H
 t : 0 ≤ t ∧ t < 4
theorem okm {W H x y t : Int} (h1 : sizeB W H = true) (h2 : alB W H x y t = true) : Okm W H x y t := by
 unfold sizeB at h1; unfold alB at h2; simp only [Bool.and_eq_true, decide_eq_true_eq] at h1 h2; exact ⟨h1.1, h1.2, ⟨h2.1.1.1.1.1.1, h2.1.1.1.1.1.2⟩, ⟨h2.1.1.1.1.2, h2.1.1.1.2⟩, ⟨h2.1.1.2, h2.1.2⟩⟩
theorem toC_lt {W H x y t i : Int} (f : Bool) (h : Okm W H x y t) : 0 ≤ toC W H x y t f i ∧ toC W H x y t f i < W * H := by
 unfold toC; have hw := h.w; have hh := h.h; have a1 := Int.emod_nonneg ((trn f (i % W) (i / W) t.toNat).2 + y) (show H ≠ 0 by omega); have a2 := Int.emod_lt_of_pos ((trn f (i % W) (i / W) t.toNat).2 + y) (show 0 < H by omega); have b1 := Int.emod_nonneg ((trn f (i % W) (i / W) t.toNat).1 + x) (show W ≠ 0 by omega); have b2 := Int.emod_lt_of_pos ((trn f (i % W) (i / W) t.toNat).1 + x) (show 0 < W by omega); obtain ⟨p, hp⟩ : ∃ p, p = ((trn f (i % W) (i / W) t.toNat).2 + y) % H := ⟨_, rfl⟩; rw [← hp] at a1 a2 ⊢; have c0 := Int.mul_nonneg a1 (show 0 ≤ W by omega); have c1 := Int.mul_le_mul_of_nonneg_right (show p ≤ H - 1 by omega) (show 0 ≤ W by omega); rw [Int.sub_mul, Int.one_mul, Int.mul_comm H W] at c1; omega
set_option maxRecDepth 100000 in
set_option maxHeartbeats 1000000 in
theorem to_got (Wd Ht x y t ci : Int) (f : Bool) (hk : Okm Wd Ht x y t) (hci : 0 ≤ ci ∧ ci < 64) (w : World) :
  Calls Tryz.prog 63 #[.agg #[.int .i64 Wd, .int .i64 Ht], .agg #[.int .i64 x, .int .i64 y, .int .i64 t, .bool f], .int .i64 ci] w (Got w (isV (.int .i64 (toC Wd Ht x y t f ci))).p) := by
 obtain ⟨hw, hh, hx, hy, ht⟩ := hk; have HT := Hd.mk ht; have r1 := Int.emod_nonneg ci (show Wd ≠ 0 by omega); have r2 := Int.emod_lt_of_pos ci (show 0 < Wd by omega); have r3 : 0 ≤ ci / Wd := Int.ediv_nonneg hci.1 (by omega); have r4 : ci / Wd ≤ 64 := by have := Int.ediv_le_self Wd hci.1; omega
 have E1 := Hd.mk (tmod_nonneg (j := Wd) hci.1); have E2 := Hd.mk (tdiv_nonneg (j := Wd) hci.1); obtain ⟨tb1, tb2⟩ := trn_bound f (x := ci % Wd) (y := ci / Wd) (b := 64) (by omega) (by omega) t.toNat; have res : toC Wd Ht x y t f ci = ((trn f (ci % Wd) (ci / Wd) t.toNat).2 + y) % Ht * Wd + ((trn f (ci % Wd) (ci / Wd) t.toNat).1 + x) % Wd := rfl; rw [res]; clear res; have LT := Hd.mk (lin_trn f (ci % Wd) (ci / Wd) t.toNat); obtain ⟨a, ha⟩ : ∃ a, a = (trn f (ci % Wd) (ci / Wd) t.toNat).1 := ⟨_, rfl⟩; obtain ⟨b, hb⟩ : ∃ b, b = (trn f (ci % Wd) (ci / Wd) t.toNat).2 := ⟨_, rfl⟩; rw [← ha] at tb1 ⊢; rw [← hb] at tb2 ⊢; have HA := Hd.mk ha.symm; have HBB := Hd.mk hb.symm; have HLA : Hd ((lin f t.toNat).a * (ci % Wd) + (lin f t.toNat).b * (ci / Wd) = a) := ⟨(congrArg Prod.fst LT.out).trans HA.out⟩; have HLB : Hd ((lin f t.toNat).c * (ci % Wd) + (lin f t.toNat).d * (ci / Wd) = b) := ⟨(congrArg Prod.snd LT.out).trans HBB.out⟩; have s1 := Int.emod_nonneg (a + x) (show Wd ≠ 0 by omega); have s2 := Int.emod_lt_of_pos (a + x) (show 0 < Wd by omega); have s3 := Int.emod_nonneg (b + y) (show Ht ≠ 0 by omega); have s4 := Int.emod_lt_of_pos (b + y) (show 0 < Ht by omega); have m1 := mul_small (a := (b + y) % Ht) (b := Wd) (by omega) (by omega); clear ha hb; go_enter Tryz.func63, Tryz.ntmps63
 go_upto_region 1 with fail
 obtain ⟨W0, hW0⟩ : ∃ W : World, W = (w.alloc (.cells #[.int .i64 Wd, .int .i64 Ht] 63)).alloc (.cells #[.int .i64 x, .int .i64 y, .int .i64 t, .bool f] 65) := ⟨_, rfl⟩; rw [← hW0]; obtain ⟨he, hb⟩ := env_two hW0; have HE := Hd.mk he; have HB := Hd.mk hb; clear he hb hW0; refine wp_region_vs 15 [10, 11, 12, 13, 14, 15, 16, 17, 18, 19, 9, 20, 21, 7, 8] [1, 2, 5, 6, 10, 11, 12, 13, 14] [] 63 [.int .i64 0, .int .i64 0] [isV (.agg #[.int .i64 x, .int .i64 y, .int .i64 t, .bool f]), qI ci, isV (.pointer (some ⟨w.heap.size, 0, none⟩)), qI Wd, qI (ci % Wd), qI ci, isV (.pointer (some ⟨w.heap.size, 0, none⟩)), qI Wd, qI (ci / Wd), isP (qI ((trn f (ci % Wd) (ci / Wd) (t).toNat).1)) (qI ((trn f (ci % Wd) (ci / Wd) (t).toNat).2)), isP (qI ((trn f (ci % Wd) (ci / Wd) (t).toNat).1)) (qI ((trn f (ci % Wd) (ci / Wd) (t).toNat).2)), qI a, qI b, qI a, qI b] (by kernel_rfl) (by kernel_rfl) (by kernel_rfl) (by rfl) alloc_Z (fun d v c a w h => by cases d <;> exact h) ?_ ?_
 ·intro qi qh qA aa wx hb hs hd
  match qi, qh, qA with
  | 0, _, _ => exact op_ldM rfl rfl (hs 4 rfl) ((HE.out.to hb).get 1 rfl) | 1, _, _ => exact op_mv rfl (hs 2 rfl) | 2, _, _ => exact ⟨_, op_faZ0 rfl (hs 3 rfl), rfl⟩ | 3, _, _ => exact op_ldI rfl rfl (hd 2 rfl) ((HE.out.to hb).cell 0 0 rfl rfl) | 4, _, _ => exact wp_b (int_eq E1.out) (op_run rfl (op_rem (by omega) (by unfold Fit; omega) (by omega) rfl (hd 1 rfl) (hd 3 rfl) _) rfl) | 5, _, _ => exact op_mv rfl (hs 2 rfl) | 6, _, _ => exact ⟨_, op_faZ0 rfl (hs 3 rfl), rfl⟩ | 7, _, _ => exact op_ldI rfl rfl (hd 6 rfl) ((HE.out.to hb).cell 0 0 rfl rfl) | 8, _, _ => exact wp_b (int_eq E2.out) (op_run rfl (op_quo (by omega) (by unfold Fit; omega) (by omega) rfl (hd 5 rfl) (hd 7 rfl) _) rfl) | 9, _, _ => exact op_call3 rfl rfl Tryz.call84 (by rw [(show aa.eval (.tmp 10) = .agg #[.int .i64 x, .int .i64 y, .int .i64 t, .bool f] from (hd 0 rfl)), (show aa.eval (.tmp 14) = .int .i64 (ci % Wd) from (hd 4 rfl)), (show aa.eval (.tmp 18) = .int .i64 (ci / Wd) from (hd 8 rfl))]; exact turned_got x y t f (ci % Wd) (ci / Wd) (by omega) (by omega) (by omega) _) | 10, _, _ => exact op_mv rfl (hd 9 rfl) | 11, _, _ => exact pure_b (int_eq HA.out) (op_fst rfl (hd 10 rfl)) | 12, _, _ => exact pure_b (int_eq HBB.out) (op_snd rfl (hd 10 rfl)) | 13, _, _ => exact op_asg rfl (hd 11 rfl) | 14, _, _ => exact op_asg rfl (hd 12 rfl) | qi + 15, h, _ => omega
 intro vs X1 hb hv hal hne; replace HB := Hd.mk (bel_then HB.out hb); replace HE := Hd.mk (HE.out.to hb); have e7 : vs 7 = .int .i64 a := hv 13 (by decide) rfl; have e8 : vs 8 = .int .i64 b := hv 14 (by decide) rfl; simp only [PA, e7, e8]; clear hv hal hne hb e7 e8; go_upto_region 2 with fail
 refine wp_region_vd 13 [23, 24, 25, 26, 27, 28, 29, 30, 31, 32, 22, 33, 34] [1, 2, 4, 5, 6, 8, 10, 11, 12] [] 63 [.int .i64 0, .int .i64 0] [isV (.agg #[.int .i64 Wd, .int .i64 Ht]), qI a, isV (.pointer (some ⟨w.heap.size + 1, 0, none⟩)), qI x, qI (a + x), qI b, isV (.pointer (some ⟨w.heap.size + 1, 1, none⟩)), qI y, qI (b + y), isP (qI ((a + x) % Wd)) (qI ((b + y) % Ht)), isP (qI ((a + x) % Wd)) (qI ((b + y) % Ht)), qI ((a + x) % Wd), qI ((b + y) % Ht)] (by rfl) alloc_Z ?_ ?_
 ·intro qi qh qA aa wx hb hs hd
  match qi, qh, qA with
  | 0, _, _ => exact aL (op_ldZ rfl rfl (hs 3 rfl) ((HE.out.to hb).get 0 rfl)) | 1, _, _ => exact aL (op_mv rfl (hs 7 rfl)) | 2, _, _ => exact aL ⟨_, op_faM0 rfl (hs 4 rfl), rfl⟩ | 3, _, _ => exact aL (op_ldI rfl rfl (hd 2 rfl) ((HE.out.to hb).cell 1 0 rfl rfl)) | 4, _, _ => exact aL ⟨_, op_add (by unfold Fit; omega) rfl (hd 1 rfl) (hd 3 rfl), rfl⟩ | 5, _, _ => exact aL (op_mv rfl (hs 8 rfl)) | 6, _, _ => exact aL ⟨_, op_faM1 rfl (hs 4 rfl), rfl⟩ | 7, _, _ => exact aL (op_ldI rfl rfl (hd 6 rfl) ((HE.out.to hb).cell 1 1 rfl rfl)) | 8, _, _ => exact aL ⟨_, op_add (by unfold Fit; omega) rfl (hd 5 rfl) (hd 7 rfl), rfl⟩ | 9, _, _ => exact aL (op_call3 rfl rfl Tryz.call85 (by rw [(show aa.eval (.tmp 23) = .agg #[.int .i64 Wd, .int .i64 Ht] from (hd 0 rfl)), (show aa.eval (.tmp 27) = .int .i64 (a + x) from (hd 4 rfl)), (show aa.eval (.tmp 31) = .int .i64 (b + y) from (hd 8 rfl))]; exact wrap_got Wd Ht (a + x) (b + y) (by omega) (by omega) (by omega) (by omega) _)) | 10, _, _ => exact aL (op_mv rfl (hd 9 rfl)) | 11, _, _ => exact aL (op_fst rfl (hd 10 rfl)) | 12, _, _ => exact aL (op_snd rfl (hd 10 rfl)) | qi + 13, h, _ => omega
 intro vs X2 hb hv hal hne; replace HB := Hd.mk (bel_then HB.out hb); replace HE := Hd.mk (HE.out.to hb); have e33 : vs 33 = .int .i64 ((a + x) % Wd) := hv 11 (by decide) rfl; have e34 : vs 34 = .int .i64 ((b + y) % Ht) := hv 12 (by decide) rfl; simp only [PA, e33, e34]; clear hv hal hne hb e33 e34; go_upto_region 3 with fail
 refine wp_region_vd 6 [35, 36, 37, 38, 39, 40] [0, 1, 3, 4, 5] [] 63 [.int .i64 0, .int .i64 0] [qI ((b + y) % Ht), isV (.pointer (some ⟨w.heap.size, 0, none⟩)), qI Wd, qI (((b + y) % Ht) * Wd), qI ((a + x) % Wd), qI ((((b + y) % Ht) * Wd) + ((a + x) % Wd))] (by rfl) alloc_Z ?_ ?_
 ·intro qi qh qA aa wx hb hs hd
  match qi, qh, qA with
  | 0, _, _ => exact aL (op_mv rfl (hs 8 rfl)) | 1, _, _ => exact aL ⟨_, op_faZ0 rfl (hs 3 rfl), rfl⟩ | 2, _, _ => exact aL (op_ldI rfl rfl (hd 1 rfl) ((HE.out.to hb).cell 0 0 rfl rfl)) | 3, _, _ => exact aL ⟨_, op_mul (by unfold Fit; omega) rfl (hd 0 rfl) (hd 2 rfl), rfl⟩ | 4, _, _ => exact aL (op_mv rfl (hs 7 rfl)) | 5, _, _ => exact aL ⟨_, op_add (by unfold Fit; omega) rfl (hd 3 rfl) (hd 4 rfl), rfl⟩ | qi + 6, h, _ => omega
 intro vs X3 hb hv hal hne; replace HB := Hd.mk (bel_then HB.out hb); replace HE := Hd.mk (HE.out.to hb); have e40 : vs 40 = .int .i64 ((((b + y) % Ht) * Wd) + ((a + x) % Wd)) := hv 5 (by decide) rfl; simp only [PA, e40]; clear hv hal hne hb e40; go_wp2_with fail
 go_ret
 exact ⟨_, rfl, HB.out, rfl⟩
set_option maxRecDepth 100000 in
set_option maxHeartbeats 1000000 in
theorem after_got (Wd Ht x1 y1 t1 x2 y2 t2 : Int) (f1 f2 : Bool) (hk1 : Okm Wd Ht x1 y1 t1) (hk2 : Okm Wd Ht x2 y2 t2) (w : World) :
  Calls Tryz.prog 53 #[.agg #[.int .i64 Wd, .int .i64 Ht], .agg #[.int .i64 x1, .int .i64 y1, .int .i64 t1, .bool f1], .agg #[.int .i64 x2, .int .i64 y2, .int .i64 t2, .bool f2]] w (Got w (isV (.agg #[.int .i64 ((aft Wd Ht x1 y1 t1 f1 x2 y2 t2 f2).1), .int .i64 ((aft Wd Ht x1 y1 t1 f1 x2 y2 t2 f2).2.1), .int .i64 ((aft Wd Ht x1 y1 t1 f1 x2 y2 t2 f2).2.2.1), .bool ((aft Wd Ht x1 y1 t1 f1 x2 y2 t2 f2).2.2.2)])).p) := by
 obtain ⟨hw, hh, hx1, hy1, ht1⟩ := hk1; obtain ⟨_, _, hx2, hy2, ht2⟩ := hk2; obtain ⟨tb1, tb2⟩ := trn_bound f1 (x := x2) (y := y2) (b := 8) (by omega) (by omega) t1.toNat; by_cases hf : f1 = true
 ·have K : Hd (f1 = true) := ⟨hf⟩; have E3 : Hd ((t1 + (4 - t2)).tmod 4 = (aft Wd Ht x1 y1 t1 f1 x2 y2 t2 f2).2.2.1) := ⟨by rw [tmod_nonneg (by omega), hf]; rfl⟩; clear hf; go_enter Tryz.func53, Tryz.ntmps53
  go_upto_region 1 with fail
  obtain ⟨W0, hW0⟩ : ∃ W : World, W = (((w.alloc (.cells #[.int .i64 Wd, .int .i64 Ht] 63)).alloc (.cells #[.int .i64 x1, .int .i64 y1, .int .i64 t1, .bool f1] 65)).alloc (.cells #[.int .i64 x2, .int .i64 y2, .int .i64 t2, .bool f2] 65)).alloc (.cells #[.int .i64 0, .int .i64 0, .int .i64 0, .bool false] 65) := ⟨_, rfl⟩; rw [← hW0]; obtain ⟨he, hb⟩ := env_four hW0; have HE := Hd.mk he; have HB := Hd.mk hb; clear he hb hW0; refine wp_region_vd 9 [11, 12, 13, 14, 15, 16, 10, 17, 18] [1, 3, 6, 7, 8] [] 63 [.int .i64 0, .int .i64 0] [isV (.agg #[.int .i64 x1, .int .i64 y1, .int .i64 t1, .bool f1]), isV (.pointer (some ⟨w.heap.size + 1 + 1, 0, none⟩)), qI x2, isV (.pointer (some ⟨w.heap.size + 1 + 1, 1, none⟩)), qI y2, isP (qI ((trn f1 x2 y2 (t1).toNat).1)) (qI ((trn f1 x2 y2 (t1).toNat).2)), isP (qI ((trn f1 x2 y2 (t1).toNat).1)) (qI ((trn f1 x2 y2 (t1).toNat).2)), qI ((trn f1 x2 y2 (t1).toNat).1), qI ((trn f1 x2 y2 (t1).toNat).2)] (by rfl) alloc_Z ?_ ?_
  ·intro qi qh qA aa wx hb hs hd
   match qi, qh, qA with
   | 0, _, _ => exact aL (op_ldM rfl rfl (hs 4 rfl) ((HE.out.to hb).get 1 rfl)) | 1, _, _ => exact aL ⟨_, op_faM0 rfl (hs 5 rfl), rfl⟩ | 2, _, _ => exact aL (op_ldI rfl rfl (hd 1 rfl) ((HE.out.to hb).cell 2 0 rfl rfl)) | 3, _, _ => exact aL ⟨_, op_faM1 rfl (hs 5 rfl), rfl⟩ | 4, _, _ => exact aL (op_ldI rfl rfl (hd 3 rfl) ((HE.out.to hb).cell 2 1 rfl rfl)) | 5, _, _ => exact aL (op_call3 rfl rfl Tryz.call84 (by rw [(show aa.eval (.tmp 11) = .agg #[.int .i64 x1, .int .i64 y1, .int .i64 t1, .bool f1] from (hd 0 rfl)), (show aa.eval (.tmp 13) = .int .i64 x2 from (hd 2 rfl)), (show aa.eval (.tmp 15) = .int .i64 y2 from (hd 4 rfl))]; exact turned_got x1 y1 t1 f1 x2 y2 (by omega) (by omega) (by omega) _)) | 6, _, _ => exact aL (op_mv rfl (hd 5 rfl)) | 7, _, _ => exact aL (op_fst rfl (hd 6 rfl)) | 8, _, _ => exact aL (op_snd rfl (hd 6 rfl)) | qi + 9, h, _ => omega
  intro vs X1 hb hv hal hne; replace HB := Hd.mk (bel_then HB.out hb); replace HE := Hd.mk (HE.out.to hb); have e17 : vs 17 = .int .i64 ((trn f1 x2 y2 (t1).toNat).1) := hv 7 (by decide) rfl; have e18 : vs 18 = .int .i64 ((trn f1 x2 y2 (t1).toNat).2) := hv 8 (by decide) rfl; simp only [PA, e17, e18]; clear hv hal hne hb e17 e18; go_upto_region 2 with fail
  refine wp_region_vd 2 [19, 20] [0] [] 63 [.int .i64 0, .int .i64 0] [isV (.pointer (some ⟨w.heap.size + 1 + 1, 2, none⟩)), qI t2] (by rfl) alloc_Z ?_ ?_
  ·intro qi qh qA aa wx hb hs hd
   match qi, qh, qA with
   | 0, _, _ => exact aL ⟨_, op_faM2 rfl (hs 5 rfl), rfl⟩ | 1, _, _ => exact aL (op_ldI rfl rfl (hd 0 rfl) ((HE.out.to hb).cell 2 2 rfl rfl)) | qi + 2, h, _ => omega
  intro vs X2 hb hv hal hne; replace HB := Hd.mk (bel_then HB.out hb); replace HE := Hd.mk (HE.out.to hb); have e20 : vs 20 = .int .i64 t2 := hv 1 (by decide) rfl; simp only [PA, e20]; clear hv hal hne hb e20; go_upto_region 3 with fail
  refine wp_region_vd 2 [21, 22] [0] [] 63 [.int .i64 0, .int .i64 0] [isV (.pointer (some ⟨w.heap.size + 1, 3, none⟩)), qT] (by rfl) alloc_Z ?_ ?_
  ·intro qi qh qA aa wx hb hs hd
   match qi, qh, qA with
   | 0, _, _ => exact aL ⟨_, op_faM3 rfl (hs 4 rfl), rfl⟩ | 1, _, _ => exact aL (wp_b (bool_eq K.out) (op_ldB rfl rfl (hd 0 rfl) ((HE.out.to hb).cell 1 3 rfl rfl))) | qi + 2, h, _ => omega
  intro vs X3 hb hv hal hne; replace HB := Hd.mk (bel_then HB.out hb); replace HE := Hd.mk (HE.out.to hb); have e22 : vs 22 = .bool true := hv 1 (by decide) rfl; simp only [PA, e22]; clear hv hal hne hb e22; go_upto_region 4 with fail
  refine wp_region_vd 3 [23, 24, 25] [0, 2] [] 63 [.int .i64 0, .int .i64 0] [isV (.pointer (some ⟨w.heap.size + 1 + 1, 2, none⟩)), qI t2, qI (4 - t2)] (by rfl) alloc_Z ?_ ?_
  ·intro qi qh qA aa wx hb hs hd
   match qi, qh, qA with
   | 0, _, _ => exact aL ⟨_, op_faM2 rfl (hs 5 rfl), rfl⟩ | 1, _, _ => exact aL (op_ldI rfl rfl (hd 0 rfl) ((HE.out.to hb).cell 2 2 rfl rfl)) | 2, _, _ => exact aL ⟨_, op_sub (by unfold Fit; omega) rfl rfl (hd 1 rfl), rfl⟩ | qi + 3, h, _ => omega
  intro vs X4 hb hv hal hne; replace HB := Hd.mk (bel_then HB.out hb); replace HE := Hd.mk (HE.out.to hb); have e25 : vs 25 = .int .i64 (4 - t2) := hv 2 (by decide) rfl; simp only [PA, e25]; clear hv hal hne hb e25; go_upto_region 5 with fail
  refine wp_region_vd 13 [27, 28, 29, 30, 31, 32, 33, 34, 35, 36, 26, 37, 38] [1, 2, 4, 5, 6, 8, 10, 11, 12] [] 63 [.int .i64 0, .int .i64 0] [isV (.agg #[.int .i64 Wd, .int .i64 Ht]), qI ((trn f1 x2 y2 (t1).toNat).1), isV (.pointer (some ⟨w.heap.size + 1, 0, none⟩)), qI x1, qI (((trn f1 x2 y2 (t1).toNat).1) + x1), qI ((trn f1 x2 y2 (t1).toNat).2), isV (.pointer (some ⟨w.heap.size + 1, 1, none⟩)), qI y1, qI (((trn f1 x2 y2 (t1).toNat).2) + y1), isP (qI ((((trn f1 x2 y2 (t1).toNat).1) + x1) % Wd)) (qI ((((trn f1 x2 y2 (t1).toNat).2) + y1) % Ht)), isP (qI ((((trn f1 x2 y2 (t1).toNat).1) + x1) % Wd)) (qI ((((trn f1 x2 y2 (t1).toNat).2) + y1) % Ht)), qI ((((trn f1 x2 y2 (t1).toNat).1) + x1) % Wd), qI ((((trn f1 x2 y2 (t1).toNat).2) + y1) % Ht)] (by rfl) alloc_Z ?_ ?_
  ·intro qi qh qA aa wx hb hs hd
   match qi, qh, qA with
   | 0, _, _ => exact aL (op_ldZ rfl rfl (hs 3 rfl) ((HE.out.to hb).get 0 rfl)) | 1, _, _ => exact aL (op_mv rfl (hs 7 rfl)) | 2, _, _ => exact aL ⟨_, op_faM0 rfl (hs 4 rfl), rfl⟩ | 3, _, _ => exact aL (op_ldI rfl rfl (hd 2 rfl) ((HE.out.to hb).cell 1 0 rfl rfl)) | 4, _, _ => exact aL ⟨_, op_add (by unfold Fit; omega) rfl (hd 1 rfl) (hd 3 rfl), rfl⟩ | 5, _, _ => exact aL (op_mv rfl (hs 8 rfl)) | 6, _, _ => exact aL ⟨_, op_faM1 rfl (hs 4 rfl), rfl⟩ | 7, _, _ => exact aL (op_ldI rfl rfl (hd 6 rfl) ((HE.out.to hb).cell 1 1 rfl rfl)) | 8, _, _ => exact aL ⟨_, op_add (by unfold Fit; omega) rfl (hd 5 rfl) (hd 7 rfl), rfl⟩ | 9, _, _ => exact aL (op_call3 rfl rfl Tryz.call85 (by rw [(show aa.eval (.tmp 27) = .agg #[.int .i64 Wd, .int .i64 Ht] from (hd 0 rfl)), (show aa.eval (.tmp 31) = .int .i64 (((trn f1 x2 y2 (t1).toNat).1) + x1) from (hd 4 rfl)), (show aa.eval (.tmp 35) = .int .i64 (((trn f1 x2 y2 (t1).toNat).2) + y1) from (hd 8 rfl))]; exact wrap_got Wd Ht (((trn f1 x2 y2 (t1).toNat).1) + x1) (((trn f1 x2 y2 (t1).toNat).2) + y1) (by omega) (by omega) (by omega) (by omega) _)) | 10, _, _ => exact aL (op_mv rfl (hd 9 rfl)) | 11, _, _ => exact aL (op_fst rfl (hd 10 rfl)) | 12, _, _ => exact aL (op_snd rfl (hd 10 rfl)) | qi + 13, h, _ => omega
  intro vs X5 hb hv hal hne; replace HB := Hd.mk (bel_then HB.out hb); replace HE := Hd.mk (HE.out.to hb); have e37 : vs 37 = .int .i64 ((((trn f1 x2 y2 (t1).toNat).1) + x1) % Wd) := hv 11 (by decide) rfl; have e38 : vs 38 = .int .i64 ((((trn f1 x2 y2 (t1).toNat).2) + y1) % Ht) := hv 12 (by decide) rfl; simp only [PA, e37, e38]; clear hv hal hne hb e37 e38; go_upto_region 6 with fail
  refine wp_region_vd 13 [39, 40, 41, 42, 43, 44, 45, 46, 47, 48, 49, 50, 51] [0, 1, 2, 4, 5, 7, 9, 11, 12] [] 63 [.int .i64 0, .int .i64 0] [qI ((((trn f1 x2 y2 (t1).toNat).1) + x1) % Wd), qI ((((trn f1 x2 y2 (t1).toNat).2) + y1) % Ht), isV (.pointer (some ⟨w.heap.size + 1, 2, none⟩)), qI t1, qI (4 - t2), qI (t1 + (4 - t2)), qI ((aft Wd Ht x1 y1 t1 f1 x2 y2 t2 f2).2.2.1), isV (.pointer (some ⟨w.heap.size + 1, 3, none⟩)), isV (.bool f1), isV (.pointer (some ⟨w.heap.size + 1 + 1, 3, none⟩)), isV (.bool f2), isV (.bool (f1 != f2)), isV (.agg #[.int .i64 ((((trn f1 x2 y2 (t1).toNat).1) + x1) % Wd), .int .i64 ((((trn f1 x2 y2 (t1).toNat).2) + y1) % Ht), .int .i64 ((aft Wd Ht x1 y1 t1 f1 x2 y2 t2 f2).2.2.1), .bool (f1 != f2)])] (by rfl) alloc_Z ?_ ?_
  ·intro qi qh qA aa wx hb hs hd
   match qi, qh, qA with
   | 0, _, _ => exact aL (op_mv rfl (hs 7 rfl)) | 1, _, _ => exact aL (op_mv rfl (hs 8 rfl)) | 2, _, _ => exact aL ⟨_, op_faM2 rfl (hs 4 rfl), rfl⟩ | 3, _, _ => exact aL (op_ldI rfl rfl (hd 2 rfl) ((HE.out.to hb).cell 1 2 rfl rfl)) | 4, _, _ => exact aL (op_mv rfl (hs 9 rfl)) | 5, _, _ => exact aL ⟨_, op_add (by unfold Fit; omega) rfl (hd 3 rfl) (hd 4 rfl), rfl⟩ | 6, _, _ => exact aL (wp_b (int_eq E3.out) (op_run rfl (op_rem (by omega) (by unfold Fit; omega) (by omega) rfl (hd 5 rfl) rfl _) rfl)) | 7, _, _ => exact aL ⟨_, op_faM3 rfl (hs 4 rfl), rfl⟩ | 8, _, _ => exact aL (op_ldB rfl rfl (hd 7 rfl) ((HE.out.to hb).cell 1 3 rfl rfl)) | 9, _, _ => exact aL ⟨_, op_faM3 rfl (hs 5 rfl), rfl⟩ | 10, _, _ => exact aL (op_ldB rfl rfl (hd 9 rfl) ((HE.out.to hb).cell 2 3 rfl rfl)) | 11, _, _ => exact aL ⟨_, op_neqB rfl (hd 8 rfl) (hd 10 rfl), rfl⟩ | 12, _, _ => exact aL ⟨_, op_buM rfl (hd 0 rfl) (hd 1 rfl) (hd 6 rfl) (hd 11 rfl), rfl⟩ | qi + 13, h, _ => omega
  intro vs X6 hb hv hal hne; replace HB := Hd.mk (bel_then HB.out hb); replace HE := Hd.mk (HE.out.to hb); have e51 : vs 51 = .agg #[.int .i64 ((((trn f1 x2 y2 (t1).toNat).1) + x1) % Wd), .int .i64 ((((trn f1 x2 y2 (t1).toNat).2) + y1) % Ht), .int .i64 ((aft Wd Ht x1 y1 t1 f1 x2 y2 t2 f2).2.2.1), .bool (f1 != f2)] := hv 12 (by decide) rfl; simp only [PA, e51]; clear hv hal hne hb e51; refine wpList_st rfl rfl rfl rfl rfl (sto_M (HE.out.get 3 rfl)) ?_; have HE' : Env (putL X6 (w.heap.size + 1 + 1 + 1) 0 [.int .i64 ((((trn f1 x2 y2 (t1).toNat).1) + x1) % Wd), .int .i64 ((((trn f1 x2 y2 (t1).toNat).2) + y1) % Ht), .int .i64 ((aft Wd Ht x1 y1 t1 f1 x2 y2 t2 f2).2.2.1), .bool (f1 != f2)]) [⟨w.heap.size, 63, [.int .i64 Wd, .int .i64 Ht]⟩, ⟨w.heap.size + 1, 65, [.int .i64 x1, .int .i64 y1, .int .i64 t1, .bool f1]⟩, ⟨w.heap.size + 1 + 1, 65, [.int .i64 x2, .int .i64 y2, .int .i64 t2, .bool f2]⟩, ⟨w.heap.size + 1 + 1 + 1, 65, [.int .i64 ((((trn f1 x2 y2 (t1).toNat).1) + x1) % Wd), .int .i64 ((((trn f1 x2 y2 (t1).toNat).2) + y1) % Ht), .int .i64 ((aft Wd Ht x1 y1 t1 f1 x2 y2 t2 f2).2.2.1), .bool (f1 != f2)]⟩] := HE.out.putF 3 rfl rfl; have HB' := putL_below (show w.heap.size ≤ w.heap.size + 1 + 1 + 1 from by omega) [.int .i64 ((((trn f1 x2 y2 (t1).toNat).1) + x1) % Wd), .int .i64 ((((trn f1 x2 y2 (t1).toNat).2) + y1) % Ht), .int .i64 ((aft Wd Ht x1 y1 t1 f1 x2 y2 t2 f2).2.2.1), .bool (f1 != f2)] _ 0 HB.out; generalize putL X6 (w.heap.size + 1 + 1 + 1) 0 [.int .i64 ((((trn f1 x2 y2 (t1).toNat).1) + x1) % Wd), .int .i64 ((((trn f1 x2 y2 (t1).toNat).2) + y1) % Ht), .int .i64 ((aft Wd Ht x1 y1 t1 f1 x2 y2 t2 f2).2.2.1), .bool (f1 != f2)] = X7 at *; replace HE := Hd.mk HE'; replace HB := Hd.mk HB'; clear HE' HB'; go_wp2_with fail
  have k0a := HE.out.cell 3 0 rfl rfl; have k0b := HE.out.cell 3 1 rfl rfl; have k0c := HE.out.cell 3 2 rfl rfl; have k0d := HE.out.cell 3 3 rfl rfl; refine bodyPost_ret (v := .agg #[.int .i64 ((((trn f1 x2 y2 (t1).toNat).1) + x1) % Wd), .int .i64 ((((trn f1 x2 y2 (t1).toNat).2) + y1) % Ht), .int .i64 ((aft Wd Ht x1 y1 t1 f1 x2 y2 t2 f2).2.2.1), .bool (f1 != f2)]) (by simp [results, Tryz.results53, go_sem, k0a, k0b, k0c, k0d]) rfl ?_; exact ⟨_, rfl, HB.out, rfl⟩
 simp only [Bool.not_eq_true] at hf; have K : Hd (f1 = false) := ⟨hf⟩; have E3 : Hd ((t1 + t2).tmod 4 = (aft Wd Ht x1 y1 t1 f1 x2 y2 t2 f2).2.2.1) := ⟨by rw [tmod_nonneg (by omega), hf]; rfl⟩; clear hf; go_enter Tryz.func53, Tryz.ntmps53
 go_upto_region 1 with fail
 obtain ⟨W0, hW0⟩ : ∃ W : World, W = (((w.alloc (.cells #[.int .i64 Wd, .int .i64 Ht] 63)).alloc (.cells #[.int .i64 x1, .int .i64 y1, .int .i64 t1, .bool f1] 65)).alloc (.cells #[.int .i64 x2, .int .i64 y2, .int .i64 t2, .bool f2] 65)).alloc (.cells #[.int .i64 0, .int .i64 0, .int .i64 0, .bool false] 65) := ⟨_, rfl⟩; rw [← hW0]; obtain ⟨he, hb⟩ := env_four hW0; have HE := Hd.mk he; have HB := Hd.mk hb; clear he hb hW0; refine wp_region_vd 9 [11, 12, 13, 14, 15, 16, 10, 17, 18] [1, 3, 6, 7, 8] [] 63 [.int .i64 0, .int .i64 0] [isV (.agg #[.int .i64 x1, .int .i64 y1, .int .i64 t1, .bool f1]), isV (.pointer (some ⟨w.heap.size + 1 + 1, 0, none⟩)), qI x2, isV (.pointer (some ⟨w.heap.size + 1 + 1, 1, none⟩)), qI y2, isP (qI ((trn f1 x2 y2 (t1).toNat).1)) (qI ((trn f1 x2 y2 (t1).toNat).2)), isP (qI ((trn f1 x2 y2 (t1).toNat).1)) (qI ((trn f1 x2 y2 (t1).toNat).2)), qI ((trn f1 x2 y2 (t1).toNat).1), qI ((trn f1 x2 y2 (t1).toNat).2)] (by rfl) alloc_Z ?_ ?_
 ·intro qi qh qA aa wx hb hs hd
  match qi, qh, qA with
  | 0, _, _ => exact aL (op_ldM rfl rfl (hs 4 rfl) ((HE.out.to hb).get 1 rfl)) | 1, _, _ => exact aL ⟨_, op_faM0 rfl (hs 5 rfl), rfl⟩ | 2, _, _ => exact aL (op_ldI rfl rfl (hd 1 rfl) ((HE.out.to hb).cell 2 0 rfl rfl)) | 3, _, _ => exact aL ⟨_, op_faM1 rfl (hs 5 rfl), rfl⟩ | 4, _, _ => exact aL (op_ldI rfl rfl (hd 3 rfl) ((HE.out.to hb).cell 2 1 rfl rfl)) | 5, _, _ => exact aL (op_call3 rfl rfl Tryz.call84 (by rw [(show aa.eval (.tmp 11) = .agg #[.int .i64 x1, .int .i64 y1, .int .i64 t1, .bool f1] from (hd 0 rfl)), (show aa.eval (.tmp 13) = .int .i64 x2 from (hd 2 rfl)), (show aa.eval (.tmp 15) = .int .i64 y2 from (hd 4 rfl))]; exact turned_got x1 y1 t1 f1 x2 y2 (by omega) (by omega) (by omega) _)) | 6, _, _ => exact aL (op_mv rfl (hd 5 rfl)) | 7, _, _ => exact aL (op_fst rfl (hd 6 rfl)) | 8, _, _ => exact aL (op_snd rfl (hd 6 rfl)) | qi + 9, h, _ => omega
 intro vs X1 hb hv hal hne; replace HB := Hd.mk (bel_then HB.out hb); replace HE := Hd.mk (HE.out.to hb); have e17 : vs 17 = .int .i64 ((trn f1 x2 y2 (t1).toNat).1) := hv 7 (by decide) rfl; have e18 : vs 18 = .int .i64 ((trn f1 x2 y2 (t1).toNat).2) := hv 8 (by decide) rfl; simp only [PA, e17, e18]; clear hv hal hne hb e17 e18; go_upto_region 2 with fail
 refine wp_region_vd 2 [19, 20] [0] [] 63 [.int .i64 0, .int .i64 0] [isV (.pointer (some ⟨w.heap.size + 1 + 1, 2, none⟩)), qI t2] (by rfl) alloc_Z ?_ ?_
 ·intro qi qh qA aa wx hb hs hd
  match qi, qh, qA with
  | 0, _, _ => exact aL ⟨_, op_faM2 rfl (hs 5 rfl), rfl⟩ | 1, _, _ => exact aL (op_ldI rfl rfl (hd 0 rfl) ((HE.out.to hb).cell 2 2 rfl rfl)) | qi + 2, h, _ => omega
 intro vs X2 hb hv hal hne; replace HB := Hd.mk (bel_then HB.out hb); replace HE := Hd.mk (HE.out.to hb); have e20 : vs 20 = .int .i64 t2 := hv 1 (by decide) rfl; simp only [PA, e20]; clear hv hal hne hb e20; go_upto_region 3 with fail
 refine wp_region_vd 2 [21, 22] [0] [] 63 [.int .i64 0, .int .i64 0] [isV (.pointer (some ⟨w.heap.size + 1, 3, none⟩)), qF] (by rfl) alloc_Z ?_ ?_
 ·intro qi qh qA aa wx hb hs hd
  match qi, qh, qA with
  | 0, _, _ => exact aL ⟨_, op_faM3 rfl (hs 4 rfl), rfl⟩ | 1, _, _ => exact aL (wp_b (bool_eq K.out) (op_ldB rfl rfl (hd 0 rfl) ((HE.out.to hb).cell 1 3 rfl rfl))) | qi + 2, h, _ => omega
 intro vs X3 hb hv hal hne; replace HB := Hd.mk (bel_then HB.out hb); replace HE := Hd.mk (HE.out.to hb); have e22 : vs 22 = .bool false := hv 1 (by decide) rfl; simp only [PA, e22]; clear hv hal hne hb e22; go_upto_region 5 with fail
 refine wp_region_vd 13 [27, 28, 29, 30, 31, 32, 33, 34, 35, 36, 26, 37, 38] [1, 2, 4, 5, 6, 8, 10, 11, 12] [] 63 [.int .i64 0, .int .i64 0] [isV (.agg #[.int .i64 Wd, .int .i64 Ht]), qI ((trn f1 x2 y2 (t1).toNat).1), isV (.pointer (some ⟨w.heap.size + 1, 0, none⟩)), qI x1, qI (((trn f1 x2 y2 (t1).toNat).1) + x1), qI ((trn f1 x2 y2 (t1).toNat).2), isV (.pointer (some ⟨w.heap.size + 1, 1, none⟩)), qI y1, qI (((trn f1 x2 y2 (t1).toNat).2) + y1), isP (qI ((((trn f1 x2 y2 (t1).toNat).1) + x1) % Wd)) (qI ((((trn f1 x2 y2 (t1).toNat).2) + y1) % Ht)), isP (qI ((((trn f1 x2 y2 (t1).toNat).1) + x1) % Wd)) (qI ((((trn f1 x2 y2 (t1).toNat).2) + y1) % Ht)), qI ((((trn f1 x2 y2 (t1).toNat).1) + x1) % Wd), qI ((((trn f1 x2 y2 (t1).toNat).2) + y1) % Ht)] (by rfl) alloc_Z ?_ ?_
 ·intro qi qh qA aa wx hb hs hd
  match qi, qh, qA with
  | 0, _, _ => exact aL (op_ldZ rfl rfl (hs 3 rfl) ((HE.out.to hb).get 0 rfl)) | 1, _, _ => exact aL (op_mv rfl (hs 7 rfl)) | 2, _, _ => exact aL ⟨_, op_faM0 rfl (hs 4 rfl), rfl⟩ | 3, _, _ => exact aL (op_ldI rfl rfl (hd 2 rfl) ((HE.out.to hb).cell 1 0 rfl rfl)) | 4, _, _ => exact aL ⟨_, op_add (by unfold Fit; omega) rfl (hd 1 rfl) (hd 3 rfl), rfl⟩ | 5, _, _ => exact aL (op_mv rfl (hs 8 rfl)) | 6, _, _ => exact aL ⟨_, op_faM1 rfl (hs 4 rfl), rfl⟩ | 7, _, _ => exact aL (op_ldI rfl rfl (hd 6 rfl) ((HE.out.to hb).cell 1 1 rfl rfl)) | 8, _, _ => exact aL ⟨_, op_add (by unfold Fit; omega) rfl (hd 5 rfl) (hd 7 rfl), rfl⟩ | 9, _, _ => exact aL (op_call3 rfl rfl Tryz.call85 (by rw [(show aa.eval (.tmp 27) = .agg #[.int .i64 Wd, .int .i64 Ht] from (hd 0 rfl)), (show aa.eval (.tmp 31) = .int .i64 (((trn f1 x2 y2 (t1).toNat).1) + x1) from (hd 4 rfl)), (show aa.eval (.tmp 35) = .int .i64 (((trn f1 x2 y2 (t1).toNat).2) + y1) from (hd 8 rfl))]; exact wrap_got Wd Ht (((trn f1 x2 y2 (t1).toNat).1) + x1) (((trn f1 x2 y2 (t1).toNat).2) + y1) (by omega) (by omega) (by omega) (by omega) _)) | 10, _, _ => exact aL (op_mv rfl (hd 9 rfl)) | 11, _, _ => exact aL (op_fst rfl (hd 10 rfl)) | 12, _, _ => exact aL (op_snd rfl (hd 10 rfl)) | qi + 13, h, _ => omega
 intro vs X4 hb hv hal hne; replace HB := Hd.mk (bel_then HB.out hb); replace HE := Hd.mk (HE.out.to hb); have e37 : vs 37 = .int .i64 ((((trn f1 x2 y2 (t1).toNat).1) + x1) % Wd) := hv 11 (by decide) rfl; have e38 : vs 38 = .int .i64 ((((trn f1 x2 y2 (t1).toNat).2) + y1) % Ht) := hv 12 (by decide) rfl; simp only [PA, e37, e38]; clear hv hal hne hb e37 e38; go_upto_region 6 with fail
 refine wp_region_vd 13 [39, 40, 41, 42, 43, 44, 45, 46, 47, 48, 49, 50, 51] [0, 1, 2, 4, 5, 7, 9, 11, 12] [] 63 [.int .i64 0, .int .i64 0] [qI ((((trn f1 x2 y2 (t1).toNat).1) + x1) % Wd), qI ((((trn f1 x2 y2 (t1).toNat).2) + y1) % Ht), isV (.pointer (some ⟨w.heap.size + 1, 2, none⟩)), qI t1, qI t2, qI (t1 + t2), qI ((aft Wd Ht x1 y1 t1 f1 x2 y2 t2 f2).2.2.1), isV (.pointer (some ⟨w.heap.size + 1, 3, none⟩)), isV (.bool f1), isV (.pointer (some ⟨w.heap.size + 1 + 1, 3, none⟩)), isV (.bool f2), isV (.bool (f1 != f2)), isV (.agg #[.int .i64 ((((trn f1 x2 y2 (t1).toNat).1) + x1) % Wd), .int .i64 ((((trn f1 x2 y2 (t1).toNat).2) + y1) % Ht), .int .i64 ((aft Wd Ht x1 y1 t1 f1 x2 y2 t2 f2).2.2.1), .bool (f1 != f2)])] (by rfl) alloc_Z ?_ ?_
 ·intro qi qh qA aa wx hb hs hd
  match qi, qh, qA with
  | 0, _, _ => exact aL (op_mv rfl (hs 7 rfl)) | 1, _, _ => exact aL (op_mv rfl (hs 8 rfl)) | 2, _, _ => exact aL ⟨_, op_faM2 rfl (hs 4 rfl), rfl⟩ | 3, _, _ => exact aL (op_ldI rfl rfl (hd 2 rfl) ((HE.out.to hb).cell 1 2 rfl rfl)) | 4, _, _ => exact aL (op_mv rfl (hs 9 rfl)) | 5, _, _ => exact aL ⟨_, op_add (by unfold Fit; omega) rfl (hd 3 rfl) (hd 4 rfl), rfl⟩ | 6, _, _ => exact aL (wp_b (int_eq E3.out) (op_run rfl (op_rem (by omega) (by unfold Fit; omega) (by omega) rfl (hd 5 rfl) rfl _) rfl)) | 7, _, _ => exact aL ⟨_, op_faM3 rfl (hs 4 rfl), rfl⟩ | 8, _, _ => exact aL (op_ldB rfl rfl (hd 7 rfl) ((HE.out.to hb).cell 1 3 rfl rfl)) | 9, _, _ => exact aL ⟨_, op_faM3 rfl (hs 5 rfl), rfl⟩ | 10, _, _ => exact aL (op_ldB rfl rfl (hd 9 rfl) ((HE.out.to hb).cell 2 3 rfl rfl)) | 11, _, _ => exact aL ⟨_, op_neqB rfl (hd 8 rfl) (hd 10 rfl), rfl⟩ | 12, _, _ => exact aL ⟨_, op_buM rfl (hd 0 rfl) (hd 1 rfl) (hd 6 rfl) (hd 11 rfl), rfl⟩ | qi + 13, h, _ => omega
 intro vs X5 hb hv hal hne; replace HB := Hd.mk (bel_then HB.out hb); replace HE := Hd.mk (HE.out.to hb); have e51 : vs 51 = .agg #[.int .i64 ((((trn f1 x2 y2 (t1).toNat).1) + x1) % Wd), .int .i64 ((((trn f1 x2 y2 (t1).toNat).2) + y1) % Ht), .int .i64 ((aft Wd Ht x1 y1 t1 f1 x2 y2 t2 f2).2.2.1), .bool (f1 != f2)] := hv 12 (by decide) rfl; simp only [PA, e51]; clear hv hal hne hb e51; refine wpList_st rfl rfl rfl rfl rfl (sto_M (HE.out.get 3 rfl)) ?_; have HE' : Env (putL X5 (w.heap.size + 1 + 1 + 1) 0 [.int .i64 ((((trn f1 x2 y2 (t1).toNat).1) + x1) % Wd), .int .i64 ((((trn f1 x2 y2 (t1).toNat).2) + y1) % Ht), .int .i64 ((aft Wd Ht x1 y1 t1 f1 x2 y2 t2 f2).2.2.1), .bool (f1 != f2)]) [⟨w.heap.size, 63, [.int .i64 Wd, .int .i64 Ht]⟩, ⟨w.heap.size + 1, 65, [.int .i64 x1, .int .i64 y1, .int .i64 t1, .bool f1]⟩, ⟨w.heap.size + 1 + 1, 65, [.int .i64 x2, .int .i64 y2, .int .i64 t2, .bool f2]⟩, ⟨w.heap.size + 1 + 1 + 1, 65, [.int .i64 ((((trn f1 x2 y2 (t1).toNat).1) + x1) % Wd), .int .i64 ((((trn f1 x2 y2 (t1).toNat).2) + y1) % Ht), .int .i64 ((aft Wd Ht x1 y1 t1 f1 x2 y2 t2 f2).2.2.1), .bool (f1 != f2)]⟩] := HE.out.putF 3 rfl rfl; have HB' := putL_below (show w.heap.size ≤ w.heap.size + 1 + 1 + 1 from by omega) [.int .i64 ((((trn f1 x2 y2 (t1).toNat).1) + x1) % Wd), .int .i64 ((((trn f1 x2 y2 (t1).toNat).2) + y1) % Ht), .int .i64 ((aft Wd Ht x1 y1 t1 f1 x2 y2 t2 f2).2.2.1), .bool (f1 != f2)] _ 0 HB.out; generalize putL X5 (w.heap.size + 1 + 1 + 1) 0 [.int .i64 ((((trn f1 x2 y2 (t1).toNat).1) + x1) % Wd), .int .i64 ((((trn f1 x2 y2 (t1).toNat).2) + y1) % Ht), .int .i64 ((aft Wd Ht x1 y1 t1 f1 x2 y2 t2 f2).2.2.1), .bool (f1 != f2)] = X6 at *; replace HE := Hd.mk HE'; replace HB := Hd.mk HB'; clear HE' HB'; go_wp2_with fail
 have k0a := HE.out.cell 3 0 rfl rfl; have k0b := HE.out.cell 3 1 rfl rfl; have k0c := HE.out.cell 3 2 rfl rfl; have k0d := HE.out.cell 3 3 rfl rfl; refine bodyPost_ret (v := .agg #[.int .i64 ((((trn f1 x2 y2 (t1).toNat).1) + x1) % Wd), .int .i64 ((((trn f1 x2 y2 (t1).toNat).2) + y1) % Ht), .int .i64 ((aft Wd Ht x1 y1 t1 f1 x2 y2 t2 f2).2.2.1), .bool (f1 != f2)]) (by simp [results, Tryz.results53, go_sem, k0a, k0b, k0c, k0d]) rfl ?_; exact ⟨_, rfl, HB.out, rfl⟩
theorem block_of_add (a : Addr) (n : Nat) : (a.add n).block = a.block := by unfold Addr.add; split <;> rfl
def Reads (w : World) (B size : Nat) (A : Option Addr) (n : Nat) (xs : List Value) : Prop :=
 xs.length = n * size ∧ (0 < n → ∃ ad, A = some ad ∧ ad.block < B ∧ ∀ j u, xs[j]? = some u → w.cell? (ad.add j) = some u)
section
variable {w w' : World} {B B' size n : Nat} {A : Option Addr} {xs : List Value}
theorem Reads.at_ {k : Nat} (h : Reads w B 1 A n xs) (hk : k < n) : ∃ ad u, A = some ad ∧ ad.block < B ∧ xs[k]? = some u ∧ w.cell? (ad.add k) = some u := by
 obtain ⟨ad, e, hb, hc⟩ := h.2 (by omega); have hl : k < xs.length := by have := h.1; omega
 exact ⟨ad, xs[k], e, hb, List.getElem?_eq_getElem hl, hc k _ (List.getElem?_eq_getElem hl)⟩
theorem Reads.keep (h : Reads w B size A n xs) (hk : ∀ p : Addr, p.block < B → w'.cell? p = w.cell? p) : Reads w' B size A n xs :=
 ⟨h.1, fun hn => by
  obtain ⟨ad, e, hb, hc⟩ := h.2 hn
  exact ⟨ad, e, hb, fun j u hu => (hk _ (by rw [block_of_add]; exact hb)).trans (hc j u hu)⟩⟩
theorem Reads.drew (h : Reads w B size A n xs) : Reads w.drew B size A n xs := h
theorem Reads.drewN (h : Reads w B size A n xs) (k : Nat) : Reads (w.drewN k) B size A n xs := h
theorem Reads.alloc (h : Reads w B size A n xs) (hB : B ≤ w.heap.size) (o : Obj) : Reads (w.alloc o) B size A n xs := h.keep fun p hp => World.cell?_alloc_lt w o p (by omega)
theorem Reads.setCell (h : Reads w B size A n xs) {p : Addr} (hB : B ≤ p.block) (u : Value) : Reads (w.setCell p u) B size A n xs :=
 h.keep fun q hq => World.cell?_setCell_other w p q u (fun e => by subst e; omega)
theorem Reads.grown (h : Reads w B size A n xs) {row : Option Nat} (hg : w.grownBy w' row) (hB : B ≤ w.heap.size) (hr : ∀ g, row = some g → B ≤ g) : Reads w' B size A n xs :=
 h.keep fun p hp => World.cell?_of_block (hg.block p.block (by omega) (fun e => by have := hr _ e.symm; omega))
theorem Reads.of_own {base : Nat} {e : TypeId} {c : Nat} (h : w.ownsRow base e size (.slice A n c) n xs) : Reads w w.heap.size size A n xs := by
 refine ⟨h.1, fun hn => ?_⟩; obtain ⟨g, cap, hv, _, hlt⟩ := h.form hn; have hA : A = some ⟨g, 0, none⟩ := by injection hv
 subst hA; exact ⟨_, rfl, hlt, h.cells (g := g) rfl⟩
end
section
variable {P : Program} (w : World)
theorem run_append_of_nil (base : Nat) (t ty e : TypeId) (i : TypeInfo) (size : Nat) (ht : P.underlying t = some (.slice e)) (hi : P.info? e = some i)
  (v : Value) (n : Nat) (xs : List Value) (hown : w.ownsRow base e size v n xs) (c : Nat) : (Builtin.append_ #[t, t] ty #[v, .slice none 0 c]).run P w = .ok v w := by
 rcases hown.2 with ⟨rfl, rfl⟩ | ⟨g, cap, cur, rfl, _, _, hnc, _⟩
 ·simp [Builtin.append_, run_underlying ht, sizeOf, typeInfo, hi, Builtin.lenOf, Builtin.firstCells]
 simp [Builtin.append_, run_underlying ht, sizeOf, typeInfo, hi, Builtin.lenOf, Builtin.firstCells, hnc, storeCells]
theorem run_append_any (base : Nat) (t ty e : TypeId) (i : TypeInfo) (z : Value) (size bytes : Nat) (ht : P.underlying t = some (.slice e)) (hi : P.info? e = some i) (hz : i.zero = some z)
  (hsize : i.size = size) (hby : i.bytes = bytes) (hzs : z.cells.size = size) (hsz : 0 < size)
  (v : Value) (n : Nat) (xs : List Value) (hown : w.ownsRow base e size v n xs)
  (B : Nat) (A : Option Addr) (m c : Nat) (news : List Value) (hr : Reads w B size A m news) (h1 : ∀ u ∈ news, u.oneCell' = true)
  (h63 : n + m ≤ maxLen) (hbytes : (n + m) * bytes ≤ 140737488355328) (hbase : base ≤ w.heap.size) :
  ∃ v' w', (Builtin.append_ #[t, t] ty #[v, .slice A m c]).run P w = .ok v' w' ∧ w'.ownsRow base e size v' (n + m) (xs ++ news) ∧ w.grownBy w' v.ownBlock ∧
   (v'.ownBlock = v.ownBlock ∨ v'.ownBlock = some w.heap.size) := by
 rcases A with _ | ad
 ·have hm : m = 0 := by
   rcases Nat.eq_zero_or_pos m with h0 | h0
   ·exact h0
   obtain ⟨ad, h, _⟩ := hr.2 h0; cases h
  subst hm; have hn : news = [] := List.eq_nil_of_length_eq_zero (by simpa using hr.1); subst hn; exact ⟨v, w, run_append_of_nil w base t ty e i size ht hi v n xs hown c, by simpa using hown, World.grownBy.refl w _, .inl rfl⟩
 have hcells : ∀ j u, news[j]? = some u → w.cell? (ad.add j) = some u := by
  intro j u hu; rcases Nat.eq_zero_or_pos m with h0 | h0
  ·subst h0; have hn : news = [] := List.eq_nil_of_length_eq_zero (by simpa using hr.1); subst hn; simp at hu
  obtain ⟨ad', h, _, hc⟩ := hr.2 h0; injection h with h
  subst h; exact hc j u hu
 obtain ⟨v', w', hrun, h2, h3, _, h5⟩ := run_append_own_at (P := P) w base t ty e i z size bytes ht hi hz hsize hby hzs hsz v n xs hown ad m c news hr.1 hcells h1 h63 hbytes hbase; exact ⟨v', w', hrun, h2, h3, h5⟩
theorem wp_append_any {o : Oper} {a : Act} {K : Act → World → Prop} {Q : Exit → Act → World → Prop} (s x : Operand) (t : TypeId)
  (ho : o.op = .call { callee := .builtin .append, args := #[s, x], argTypes := #[t, t] })
  (base : Nat) (e : TypeId) (i : TypeInfo) (z : Value) (size bytes : Nat) (ht : P.underlying t = some (.slice e)) (hi : P.info? e = some i) (hz : i.zero = some z)
  (hsize : i.size = size) (hby : i.bytes = bytes) (hzs : z.cells.size = size) (hsz : 0 < size)
  (v : Value) (n : Nat) (xs : List Value) (hs : a.eval s = v) (hown : w.ownsRow base e size v n xs)
  (B : Nat) (A : Option Addr) (m c : Nat) (news : List Value) (hx : a.eval x = .slice A m c) (hr : Reads w B size A m news) (h1 : ∀ u ∈ news, u.oneCell' = true)
  (h63 : n + m ≤ maxLen) (hbytes : (n + m) * bytes ≤ 140737488355328) (hbase : base ≤ w.heap.size)
  (h : ∀ v' w', w'.ownsRow base e size v' (n + m) (xs ++ news) → w.grownBy w' v.ownBlock → (v'.ownBlock = v.ownBlock ∨ v'.ownBlock = some w.heap.size) → K (a.put o.dst v') w') : o.wp P a w K Q := by
 obtain ⟨v', w', hrun, h2, h3, h4⟩ := run_append_any (P := P) w base t o.type e i z size bytes ht hi hz hsize hby hzs hsz v n xs hown B A m c news hr h1 h63 hbytes hbase; unfold Oper.wp execOp; simp only [ho, resolve, invoke, builtin, Sem.run_bind, Sem.run_pure, Result.andThen_ok, List.map_toArray, List.map_cons, List.map_nil, hs, hx, hrun]; exact h v' w' h2 h3 h4
theorem wpList_append_any {ops : Array Oper} {rest : List Oper} {o : Oper} {a : Act} {Q : Exit → Act → World → Prop} (hgd : o.guard = none) (s x : Operand) (t : TypeId)
  (ho : o.op = .call { callee := .builtin .append, args := #[s, x], argTypes := #[t, t] })
  (base : Nat) (e : TypeId) (i : TypeInfo) (z : Value) (size bytes : Nat) (ht : P.underlying t = some (.slice e)) (hi : P.info? e = some i) (hz : i.zero = some z)
  (hsize : i.size = size) (hby : i.bytes = bytes) (hzs : z.cells.size = size) (hsz : 0 < size)
  (v : Value) (n : Nat) (xs : List Value) (hs : a.eval s = v) (hown : w.ownsRow base e size v n xs)
  (B : Nat) (A : Option Addr) (m c : Nat) (news : List Value) (hx : a.eval x = .slice A m c) (hr : Reads w B size A m news) (h1 : ∀ u ∈ news, u.oneCell' = true)
  (h63 : n + m ≤ maxLen) (hbytes : (n + m) * bytes ≤ 140737488355328) (hbase : base ≤ w.heap.size)
  (h : ∀ v' w', w'.ownsRow base e size v' (n + m) (xs ++ news) → w.grownBy w' v.ownBlock → (v'.ownBlock = v.ownBlock ∨ v'.ownBlock = some w.heap.size) → wpList P ops Q rest (a.put o.dst v') w') : wpList P ops Q (o :: rest) a w :=
 wpList_plain hgd fun _ hK => wp_append_any w s x t ho base e i z size bytes ht hi hz hsize hby hzs hsz v n xs hs hown B A m c news hx hr h1 h63 hbytes hbase fun v' w' h2 h3 h4 => hK _ _ (h v' w' h2 h3 h4)
end
theorem RI.put {w : World} {A : Option Addr} {xs : List Int} {g : Nat} (h : RI w A xs) (hne : ∀ ad, A = some ad → ad.block ≠ g) : ∀ (vs : List Value) (o : Nat), RI (putL w g o vs) A xs := by
 have key : ∀ (vs : List Value) (w : World) (o : Nat) (ad : Addr), ad.block ≠ g → ∀ j, (putL w g o vs).cell? (ad.add j) = w.cell? (ad.add j) := by
  intro vs
  induction vs with
  | nil => intro w o ad hn j; rfl
  | cons v vs ih =>
   intro w o ad hn j; show (putL (w.setCell ⟨g, o, none⟩ v) g (o + 1) vs).cell? (ad.add j) = _; rw [ih _ _ _ hn]; exact World.cell?_setCell_far _ _ _ _ (by rw [block_add]; first | exact hn | exact Ne.symm hn)
 intro vs o hn; obtain ⟨ad, e, hc⟩ := h hn; exact ⟨ad, e, fun j hj => (key vs w o ad (hne ad e) j).trans (hc j hj)⟩
section
variable {Q : Exit → Act → World → Prop} {o : Oper} {a : Act} {w : World} {x y z : Operand} {b1 b2 m : Int} {lo : Nat} {xs : List Int} {A : Option Addr} {n k : Nat}
end
def badc (x : Int) : Bool := decide (x < 0) || decide (8 ≤ x)
theorem bad_any (x : Int) (w : World) : Calls Tryz.prog 100 #[.int .i64 x] w fun e w' => e = .returned (.bool (badc x)) ∧ w = w' := by
 unfold badc; by_cases hx : x < 0
 ·go_enter Tryz.func100, Tryz.ntmps100
  go_wp2
  go_ret
  exact ⟨by simp [hx], rfl⟩
 go_enter Tryz.func100, Tryz.ntmps100
 go_wp2
 go_ret
 exact ⟨ret_bool (by simp [hx]; omega), rfl⟩
theorem no_more {l : List Int} {k : Nat} (h : ∀ j : Nat, j < k → badc (l.getD j 0) = false) (h2 : badc (l.getD k 0) = false) : ∀ j : Nat, j < k + 1 → badc (l.getD j 0) = false := by
 intro j hj; by_cases hk : j < k
 ·exact h j hk
 have : j = k := by omega
 subst this; exact h2
theorem idx_any (A : Option Addr) (c : Nat) (l : List Int) (w : World) (hr : RI w A l) (hc : l.length ≤ 140737488351232) :
  Calls Tryz.prog 124 #[.slice A l.length c, .func (.func 100) #[] #[]] w fun e w' => ∃ i : Int, e = .returned (.int .i64 i) ∧ decide (0 ≤ i) = l.any badc ∧ w = w' := by
 have HR := Hd.mk hr; clear hr; go_enter Tryz.func124, Tryz.ntmps124
 go_wp2
 go_loop [5, 8] (fun s i => ∃ k : Nat, k ≤ l.length ∧ i = .int .i64 k ∧ (∀ j : Nat, j < k → badc (l.getD j 0) = false)) (fun _ i => l.length - (intOf i).toNat)
 case atStart => exact ⟨0, Nat.zero_le _, rfl, fun j hj => absurd hj (by omega)⟩
 case round =>
  obtain ⟨k, hk, rfl, hno⟩ := hrel; have HNO := Hd.mk hno; clear hno; by_cases hlt : k < l.length
  ·obtain ⟨ad, rfl, hcell⟩ := HR.out.at_ hlt; obtain ⟨q, hq⟩ : ∃ q, q = l.getD k 0 := ⟨_, rfl⟩; rw [← hq] at hcell; have HQ := Hd.mk hq; clear hq; rcases hb : badc q with _ | _
   ·have HB := Hd.mk hb; clear hb; go_wp2_with (first | (go_at_call 100; refine (bad_any _ _).mono ?_; rintro e w' ⟨rfl, rfl⟩; rw [HB.out]))
    go_round
    case rel => exact ⟨k + 1, by omega, by go_num, no_more HNO.out (by rw [← HQ.out]; exact HB.out)⟩
    case measure => simp [intOf]; omega
   have HB := Hd.mk hb; clear hb; go_wp2_with (first | (go_at_call 100; refine (bad_any _ _).mono ?_; rintro e w' ⟨rfl, rfl⟩; rw [HB.out]))
   go_ret
   refine ⟨k, rfl, ?_, rfl⟩; rw [decide_eq_true (by omega)]; symm
   rw [List.any_eq_true]; exact ⟨l[k], List.getElem_mem hlt, by have h := HB.out; rw [HQ.out] at h; rwa [show l.getD k 0 = l[k] by simp [hlt]] at h⟩
  go_wp2
  go_ret
  refine ⟨-1, rfl, ?_, rfl⟩; rw [decide_eq_false (by omega)]; symm
  rw [List.any_eq_false]; intro x hx; obtain ⟨j, hj, rfl⟩ := List.getElem_of_mem hx; have := HNO.out j (by omega); simpa [hj] using this
theorem cont_got (A : Option Addr) (c : Nat) (l : List Int) (w : World) (hr : RI w A l) (hc : l.length ≤ 140737488351232) :
  Calls Tryz.prog 99 #[.slice A l.length c, .func (.func 100) #[] #[]] w (Got w (isV (.bool (l.any badc))).p) := by
 have HR := Hd.mk hr; clear hr; go_enter Tryz.func99, Tryz.ntmps99
 go_wp2_with (first | (go_at_call 124; refine (idx_any _ _ _ _ HR.out hc).mono ?_; rintro e w' ⟨i, rfl, hi, rfl⟩; have HI := Hd.mk hi; clear hi))
 go_ret
 exact ⟨_, rfl, Below.refl _ _, by show Value.bool _ = _; rw [← HI.out]⟩
theorem eq_take {l m : List Int} {k : Nat} (h : l.take k = m.take k) (h1 : k < l.length) (h2 : k < m.length) (h3 : l.getD k 0 = m.getD k 0) : l.take (k + 1) = m.take (k + 1) := by
 rw [List.take_add_one, List.take_add_one, h, List.getElem?_eq_getElem h1, List.getElem?_eq_getElem h2]; have e1 : l.getD k 0 = l[k] := by simp [h1]
 have e2 : m.getD k 0 = m[k] := by simp [h2]
 rw [← e1, ← e2, h3]
set_option maxRecDepth 100000 in
theorem equal_got (A : Option Addr) (c : Nat) (l : List Int) (A' : Option Addr) (c' : Nat) (m : List Int) (w : World) (hr : RI w A l) (hr' : RI w A' m) (hl : l.length ≤ 1000000) (hm : m.length ≤ 1000000) :
  Calls Tryz.prog 47 #[.slice A l.length c, .slice A' m.length c'] w (Got w (isV (.bool (decide (l = m)))).p) := by
 have HR := Hd.mk hr; have HR' := Hd.mk hr'; clear hr hr'; by_cases hlen : l.length = m.length
 ·obtain ⟨n, hn⟩ : ∃ n, n = l.length := ⟨_, rfl⟩; have hn' : n = m.length := hn.trans hlen; rw [← hn, ← hn']; have HN := Hd.mk hn; have HN' := Hd.mk hn'; rw [← hn] at hl; clear hn hn' hlen hm; have hnn : ((n : Int) == (n : Int)) = true := by simp
  go_enter Tryz.func47, Tryz.ntmps47
  go_wp2
  go_loopw [5, 13] (fun s i wr => ∃ k : Nat, k ≤ n ∧ i = .int .i64 k ∧ l.take k = m.take k ∧ Below w.heap.size w wr) (fun _ i _ => n - (intOf i).toNat)
  case atStart => exact ⟨0, Nat.zero_le _, rfl, rfl, Below.refl _ _⟩
  case round =>
   obtain ⟨k, hk, rfl, htk, hbel⟩ := hrel; have HT := Hd.mk htk; have HB := Hd.mk hbel; clear htk hnn hbel; by_cases hlt : k < n
   ·obtain ⟨ad, rfl, hcell⟩ := (HR.out.to HB.out).at_ (k := k) (by rw [← HN.out]; exact hlt); obtain ⟨ad', rfl, hcell'⟩ := (HR'.out.to HB.out).at_ (k := k) (by rw [← HN'.out]; exact hlt); obtain ⟨p, hp⟩ : ∃ p, p = l.getD k 0 := ⟨_, rfl⟩; obtain ⟨q, hq⟩ : ∃ q, q = m.getD k 0 := ⟨_, rfl⟩; rw [← hp] at hcell; rw [← hq] at hcell'; have HP := Hd.mk hp; have HQ := Hd.mk hq; clear hp hq; by_cases he : p = q
    ·subst he; go_wp2_with fail
     go_quiet (fail)
     go_wp2_with fail
     go_roundw
     case rel => exact ⟨k + 1, by omega, by go_num, eq_take HT.out (by rw [← HN.out]; exact hlt) (by rw [← HN'.out]; exact hlt) (by rw [← HP.out, ← HQ.out]), below_drewN HB.out _⟩
     case measure => simp [intOf]; omega
    have HE := Hd.mk he; have hbe : (p == q) = false := by simpa using he
    clear he; go_wp2_with fail
    go_quiet (fail)
    go_wp2_with fail
    go_ret
    exact ⟨_, rfl, below_drewN HB.out _, by show Value.bool false = _; rw [decide_eq_false (fun h => HE.out (by rw [HP.out, HQ.out, h]))]⟩
   go_wp2
   go_ret
   refine ⟨_, rfl, HB.out, ?_⟩; show Value.bool true = _; rw [decide_eq_true]; have e := HT.out; rwa [List.take_of_length_le (by have := HN.out; omega), List.take_of_length_le (by have := HN'.out; omega)] at e
 have hne : (((l.length : Nat) : Int) == ((m.length : Nat) : Int)) = false := by rw [beq_eq_false_iff_ne]; omega
 have HX : Hd (l ≠ m) := ⟨fun h => hlen (by rw [h])⟩; clear hlen; obtain ⟨n, hn⟩ : ∃ n, n = l.length := ⟨_, rfl⟩; obtain ⟨n', hn'⟩ : ∃ n, n = m.length := ⟨_, rfl⟩; rw [← hn, ← hn'] at hne ⊢; clear hn hn' HR HR'; go_enter Tryz.func47, Tryz.ntmps47
 go_wp2
 go_ret
 exact ⟨_, rfl, Below.refl _ _, by show Value.bool false = _; rw [decide_eq_false HX.out]⟩
end Go.Proofs.YtddbmckbankmeaaGreat
