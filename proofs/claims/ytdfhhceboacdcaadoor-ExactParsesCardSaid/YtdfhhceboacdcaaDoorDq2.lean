/- Part 2 of the texts behind this claim. -/
import Derived.Test.YtdfhhceboacdcaaDoorDq1
set_option linter.unusedVariables false
namespace Go.Proofs.YtdfhhceboacdcaaDoor
open Go.RowKit
theorem run_max2_int (k k' : IntKind) (x y : Int) : Builtin.max2 (.int k x) (.int k' y) = pure (.int k (if x < y then y else x)) := by simp only [Builtin.max2, gt_iff_lt]
theorem run_max_two (ats : Array TypeId) (ty : TypeId) (a b : Value) : Builtin.max_ ats ty #[a, b] = (Builtin.max2 a b >>= fun s => pure s) := by simp only [Builtin.max_, List.foldlM_cons, List.foldlM_nil]
theorem reads_new (w : World) (t : TypeId) (x : Nat) : Reads (w.alloc (.cells #[.int .u32 ((x : Nat) : Int)] t)) (w.alloc (.cells #[.int .u32 ((x : Nat) : Int)] t)).heap.size 1 (some ⟨w.heap.size, 0, none⟩) 1 (cells [x]) :=
 (Blk.reads (ds := [x]) (heap_alloc_new w (.cells #[.int .u32 ((x : Nat) : Int)] t) : Blk _ _ t (cells [x]))).reads
theorem own_ge {w : World} {base : Nat} {e : TypeId} {s : Nat} {v : Value} {n : Nat} {xs : List Value} (h : w.ownsRow base e s v n xs) : ∀ g, v.ownBlock = some g → base ≤ g := by
 intro g hg; rcases h.2 with ⟨rfl, _⟩ | ⟨g', cap, cur, rfl, hb, _⟩
 ·cases hg
 cases hg; exact hb
attribute [local go_sem] run_max2_int run_max_two
set_option maxRecDepth 100000 in
theorem rplus_calls (A1 : Option Addr) (c1 m : Nat) (A2 : Option Addr) (c2 n : Nat) (w : World) (h1 : NN w A1 c1 m) (h2 : NN w A2 c2 n) (l1 : ln m ≤ 1073741824) (l2 : ln n ≤ 1073741824) :
  Calls Tryd.prog 16 #[.slice A1 (ln m) c1, .slice A2 (ln n) c2] w (RetN (m + n) w) := by
 have HX := Hd.mk h1; have HY := Hd.mk h2; clear h1 h2; by_cases hlt : ln m < ln n
 ·have hmk := fun W => make_words2 45 Tryd.underlying45 0 ((ln n : Int) + 1) 0 (ln n + 1) rfl (by omega) (by omega) (by omega) W
  have hown : (w.alloc (.cells (cells (List.replicate (ln n + 1) 0)).toArray 37)).ownsRow w.heap.size 37 1 (.slice (some ⟨w.heap.size, 0, none⟩) 0 (ln n + 1)) 0 (cells []) := own_made (heap_alloc_new w (.cells (cells (List.replicate (ln n + 1) 0)).toArray 37)) (c := ln n + 1) (n := 0) (by simp) (by omega) (by omega) (base := w.heap.size) (Nat.le_refl _); have HOWN := Hd.mk hown; clear hown; obtain ⟨i0, hi, hz0, hz1, hz2⟩ := info_parts Tryd.info_word; go_enter Tryd.func16, Tryd.ntmps16
  go_wp2
  clear hmk; go_loopw [5, 6, 7] (fun s5 s6 s7 wr => ∃ (v : Value) (k cy : Nat) (ds : List Nat), v = s5 ∧ k ≤ ln n ∧ s7 = .int .i64 k ∧ s6 = .int .u64 ((cy : Nat) : Int) ∧ cy ≤ 1 ∧ ds.length = k ∧ Dg ds ∧ val ds + B ^ k * cy = val ((dig m).take k) + val ((dig n).take k) ∧ wr.ownsRow w.heap.size 37 1 v k (cells ds) ∧ Below w.heap.size w wr) (fun _ _ s7 _ => ln n - (intOf s7).toNat)
  case atStart => exact ⟨_, 0, 0, [], rfl, Nat.zero_le _, rfl, rfl, Nat.zero_le _, rfl, (fun x hx => by cases hx), by simp [val], HOWN.out, below_alloc (Below.refl _ _) _⟩
  case round =>
   obtain ⟨v, k, cy, ds, rfl, hk, rfl, rfl, hcy, hdl, hdd, hval, hown, hbel⟩ := hrel; have HV := Hd.mk hval; have HO := Hd.mk hown; have HL := Hd.mk hdl; have HB := Hd.mk hbel; have HD := Hd.mk hdd; clear hval hown hdl hbel hdd; obtain ⟨dx, hdx⟩ : ∃ dx, dx = (dig m).getD k 0 := ⟨_, rfl⟩; have hdx1 : dx < 4294967296 := by rw [hdx]; exact dg_get (dg_dig _) k
   obtain ⟨dy, hdy⟩ : ∃ dy, dy = (dig n).getD k 0 := ⟨_, rfl⟩; have hdy1 : dy < 4294967296 := by rw [hdy]; exact dg_get (dg_dig _) k
   have HDX := Hd.mk hdx; have HDY := Hd.mk hdy; clear hdx hdy; by_cases hkm : k < ln m
   ·obtain ⟨a1, rfl, hcell1⟩ := (HX.out.to HB.out).at_ hkm; rw [← HDX.out] at hcell1; by_cases hkn : k < ln n
    ·obtain ⟨a2, rfl, hcell2⟩ := (HY.out.to HB.out).at_ hkn; rw [← HDY.out] at hcell2; have HZ := Hd.mk (Nat.le_refl 0); obtain ⟨x, hx⟩ : ∃ x : Nat, x = (dx + dy + cy) % 4294967296 := ⟨_, rfl⟩; obtain ⟨c2, hc2⟩ : ∃ c2 : Nat, c2 = (dx + dy + cy) / 4294967296 := ⟨_, rfl⟩; have hx' : ((cy : Int) + (dx : Int) + (dy : Int)) % 4294967296 = (x : Int) := by have hz := HZ.out; rw [hx]; omega
     have hc' : ((cy : Int) + (dx : Int) + (dy : Int)) / 4294967296 = (c2 : Int) := by have hz := HZ.out; rw [hc2]; omega
     have hxl : x < B := by rw [hx]; exact Nat.mod_lt _ (by decide)
     have hcl : c2 ≤ 1 := by rw [hc2]; omega
     have hstep := add_step (a := dx) (b := dy) HL.out HV.out; rw [← hx, ← hc2, HDX.out, HDY.out, ← val_take_next, ← val_take_next] at hstep; have HS := Hd.mk hstep; clear hx hc2 hstep; go_wp2_with (first | (at_builtin; (refine wpList_append_any _ rfl (.tmp 49) (.tmp 52) 45 rfl w.heap.size 37 i0 (.int .u32 0) 1 4 Tryd.underlying45 hi hz0 hz1 hz2 rfl (by decide) v k (cells ds) rfl (HO.out.alloc _) _ (some ⟨wr.heap.size, 0, none⟩) 1 1 (cells [x]) rfl (reads_new _ _ _) (cells_one _) (by unfold maxLen; omega) (by omega) (by have := HB.out.size; simp; omega) ?_; intro v1 w1 hown1 hg1 hat1)))
     rw [← cells_append] at hown1; go_roundw
     case rel => exact ⟨_, k + 1, c2, ds ++ [x], rfl, by omega, by go_num, rfl, hcl, by rw [List.length_append, HL.out]; rfl, dg_append HD.out (dg_one hxl), HS.out, hown1, (below_alloc HB.out _).grown hg1 (by have := HB.out.size; simp; omega) (own_ge HO.out)⟩
     case measure => simp [intOf]; omega
    have hdy0 : dy = 0 := by rw [HDY.out]; exact getD_zero_of_le (by unfold ln at hkn; omega)
    have HZ := Hd.mk hdy0; clear hdy0; try (exfalso; omega)
    all_goals
     obtain ⟨x, hx⟩ : ∃ x : Nat, x = (dx + dy + cy) % 4294967296 := ⟨_, rfl⟩; obtain ⟨c2, hc2⟩ : ∃ c2 : Nat, c2 = (dx + dy + cy) / 4294967296 := ⟨_, rfl⟩; have hx' : ((cy : Int) + (dx : Int)) % 4294967296 = (x : Int) := by have hz := HZ.out; rw [hx]; omega
     have hc' : ((cy : Int) + (dx : Int)) / 4294967296 = (c2 : Int) := by have hz := HZ.out; rw [hc2]; omega
     have hxl : x < B := by rw [hx]; exact Nat.mod_lt _ (by decide)
     have hcl : c2 ≤ 1 := by rw [hc2]; omega
     have hstep := add_step (a := dx) (b := dy) HL.out HV.out; rw [← hx, ← hc2, HDX.out, HDY.out, ← val_take_next, ← val_take_next] at hstep; have HS := Hd.mk hstep; clear hx hc2 hstep; go_wp2_with (first | (at_builtin; (refine wpList_append_any _ rfl (.tmp 49) (.tmp 52) 45 rfl w.heap.size 37 i0 (.int .u32 0) 1 4 Tryd.underlying45 hi hz0 hz1 hz2 rfl (by decide) v k (cells ds) rfl (HO.out.alloc _) _ (some ⟨wr.heap.size, 0, none⟩) 1 1 (cells [x]) rfl (reads_new _ _ _) (cells_one _) (by unfold maxLen; omega) (by omega) (by have := HB.out.size; simp; omega) ?_; intro v1 w1 hown1 hg1 hat1)))
     rw [← cells_append] at hown1; go_roundw
     case rel => exact ⟨_, k + 1, c2, ds ++ [x], rfl, by omega, by go_num, rfl, hcl, by rw [List.length_append, HL.out]; rfl, dg_append HD.out (dg_one hxl), HS.out, hown1, (below_alloc HB.out _).grown hg1 (by have := HB.out.size; simp; omega) (own_ge HO.out)⟩
     case measure => simp [intOf]; omega
   have hdx0 : dx = 0 := by rw [HDX.out]; exact getD_zero_of_le (by unfold ln at hkm; omega)
   have HZ := Hd.mk hdx0; clear hdx0; by_cases hkn : k < ln n
   ·obtain ⟨a2, rfl, hcell2⟩ := (HY.out.to HB.out).at_ hkn; rw [← HDY.out] at hcell2; try (exfalso; omega)
    all_goals
     obtain ⟨x, hx⟩ : ∃ x : Nat, x = (dx + dy + cy) % 4294967296 := ⟨_, rfl⟩; obtain ⟨c2, hc2⟩ : ∃ c2 : Nat, c2 = (dx + dy + cy) / 4294967296 := ⟨_, rfl⟩; have hx' : ((cy : Int) + (dy : Int)) % 4294967296 = (x : Int) := by have hz := HZ.out; rw [hx]; omega
     have hc' : ((cy : Int) + (dy : Int)) / 4294967296 = (c2 : Int) := by have hz := HZ.out; rw [hc2]; omega
     have hxl : x < B := by rw [hx]; exact Nat.mod_lt _ (by decide)
     have hcl : c2 ≤ 1 := by rw [hc2]; omega
     have hstep := add_step (a := dx) (b := dy) HL.out HV.out; rw [← hx, ← hc2, HDX.out, HDY.out, ← val_take_next, ← val_take_next] at hstep; have HS := Hd.mk hstep; clear hx hc2 hstep; go_wp2_with (first | (at_builtin; (refine wpList_append_any _ rfl (.tmp 49) (.tmp 52) 45 rfl w.heap.size 37 i0 (.int .u32 0) 1 4 Tryd.underlying45 hi hz0 hz1 hz2 rfl (by decide) v k (cells ds) rfl (HO.out.alloc _) _ (some ⟨wr.heap.size, 0, none⟩) 1 1 (cells [x]) rfl (reads_new _ _ _) (cells_one _) (by unfold maxLen; omega) (by omega) (by have := HB.out.size; simp; omega) ?_; intro v1 w1 hown1 hg1 hat1)))
     rw [← cells_append] at hown1; go_roundw
     case rel => exact ⟨_, k + 1, c2, ds ++ [x], rfl, by omega, by go_num, rfl, hcl, by rw [List.length_append, HL.out]; rfl, dg_append HD.out (dg_one hxl), HS.out, hown1, (below_alloc HB.out _).grown hg1 (by have := HB.out.size; simp; omega) (own_ge HO.out)⟩
     case measure => simp [intOf]; omega
   have hke : k = ln n := by omega
   have hv2 : val (ds ++ [cy]) = m + n := by
    rw [val_snoc, HL.out, HV.out, val_take_all (by omega), val_take_all (by omega)]
   have hcyx : (cy : Int) % 4294967296 = (cy : Int) := by omega
   have HC := Hd.mk hv2; have hdd2 : Dg (ds ++ [cy]) := dg_append HD.out (dg_one (by unfold B; omega)); have HD2 := Hd.mk hdd2; have hfin : ln (m + n) ≤ ln n + 1 := Nat.le_trans (ln_add m n) (by omega); have HKE := Hd.mk hke; clear hv2 hdd2 hke hdx1 hdy1; go_wp2_with (first | (at_builtin; (refine wpList_append_any _ rfl (.tmp 56) (.tmp 59) 45 rfl w.heap.size 37 i0 (.int .u32 0) 1 4 Tryd.underlying45 hi hz0 hz1 hz2 rfl (by decide) v k (cells ds) rfl (HO.out.alloc _) _ (some ⟨wr.heap.size, 0, none⟩) 1 1 (cells [cy]) rfl (reads_new _ _ _) (cells_one _) (by unfold maxLen; omega) (by omega) (by have := HB.out.size; simp; omega) ?_; intro v1 w1 hown1 hg1 hat1; rw [← cells_append] at hown1; have hl : (ds ++ [cy]).length = k + 1 := (by rw [List.length_append, HL.out]; rfl); have hown2 : w1.ownsRow w.heap.size 37 1 v1 (ds ++ [cy]).length (cells (ds ++ [cy])) := (by rw [hl]; exact hown1); obtain ⟨A3, c3, hv3, hrn, hc3, hcm⟩ := own_slice hown2; subst hv3; rw [hl] at hc3 ⊢; have HR := Hd.mk hrn; have HT := Hd.mk (trim_calls A3 c3 (ds ++ [cy]) w1 hrn HD2.out (by rw [hl]; exact hc3) hcm); rw [hl, HC.out] at HT; have hb1 := (below_alloc HB.out (.cells #[.int .u32 ((cy : Nat) : Int)] 37)).grown hg1 (by have := HB.out.size; simp; omega) (own_ge HO.out); have HB1 := Hd.mk hb1; clear hrn hl hown1 hown2 hg1 hat1 hb1)) | (go_at_call 36; refine HT.out.mono ?_; rintro e w' ⟨rfl, rfl⟩))
   go_ret
   refine ⟨_, _, rfl, ⟨?_, by omega, hcm⟩, HB1.out⟩; have := HR.out.of_take HD2.out; rwa [HC.out] at this
 have hmk := fun W => make_words2 45 Tryd.underlying45 0 ((ln m : Int) + 1) 0 (ln m + 1) rfl (by omega) (by omega) (by omega) W
 have hown : (w.alloc (.cells (cells (List.replicate (ln m + 1) 0)).toArray 37)).ownsRow w.heap.size 37 1 (.slice (some ⟨w.heap.size, 0, none⟩) 0 (ln m + 1)) 0 (cells []) := own_made (heap_alloc_new w (.cells (cells (List.replicate (ln m + 1) 0)).toArray 37)) (c := ln m + 1) (n := 0) (by simp) (by omega) (by omega) (base := w.heap.size) (Nat.le_refl _); have HOWN := Hd.mk hown; clear hown; obtain ⟨i0, hi, hz0, hz1, hz2⟩ := info_parts Tryd.info_word; go_enter Tryd.func16, Tryd.ntmps16
 go_wp2
 clear hmk; go_loopw [5, 6, 7] (fun s5 s6 s7 wr => ∃ (v : Value) (k cy : Nat) (ds : List Nat), v = s5 ∧ k ≤ ln m ∧ s7 = .int .i64 k ∧ s6 = .int .u64 ((cy : Nat) : Int) ∧ cy ≤ 1 ∧ ds.length = k ∧ Dg ds ∧ val ds + B ^ k * cy = val ((dig m).take k) + val ((dig n).take k) ∧ wr.ownsRow w.heap.size 37 1 v k (cells ds) ∧ Below w.heap.size w wr) (fun _ _ s7 _ => ln m - (intOf s7).toNat)
 case atStart => exact ⟨_, 0, 0, [], rfl, Nat.zero_le _, rfl, rfl, Nat.zero_le _, rfl, (fun x hx => by cases hx), by simp [val], HOWN.out, below_alloc (Below.refl _ _) _⟩
 case round =>
  obtain ⟨v, k, cy, ds, rfl, hk, rfl, rfl, hcy, hdl, hdd, hval, hown, hbel⟩ := hrel; have HV := Hd.mk hval; have HO := Hd.mk hown; have HL := Hd.mk hdl; have HB := Hd.mk hbel; have HD := Hd.mk hdd; clear hval hown hdl hbel hdd; obtain ⟨dx, hdx⟩ : ∃ dx, dx = (dig m).getD k 0 := ⟨_, rfl⟩; have hdx1 : dx < 4294967296 := by rw [hdx]; exact dg_get (dg_dig _) k
  obtain ⟨dy, hdy⟩ : ∃ dy, dy = (dig n).getD k 0 := ⟨_, rfl⟩; have hdy1 : dy < 4294967296 := by rw [hdy]; exact dg_get (dg_dig _) k
  have HDX := Hd.mk hdx; have HDY := Hd.mk hdy; clear hdx hdy; by_cases hkm : k < ln m
  ·obtain ⟨a1, rfl, hcell1⟩ := (HX.out.to HB.out).at_ hkm; rw [← HDX.out] at hcell1; by_cases hkn : k < ln n
   ·obtain ⟨a2, rfl, hcell2⟩ := (HY.out.to HB.out).at_ hkn; rw [← HDY.out] at hcell2; have HZ := Hd.mk (Nat.le_refl 0); obtain ⟨x, hx⟩ : ∃ x : Nat, x = (dx + dy + cy) % 4294967296 := ⟨_, rfl⟩; obtain ⟨c2, hc2⟩ : ∃ c2 : Nat, c2 = (dx + dy + cy) / 4294967296 := ⟨_, rfl⟩; have hx' : ((cy : Int) + (dx : Int) + (dy : Int)) % 4294967296 = (x : Int) := by have hz := HZ.out; rw [hx]; omega
    have hc' : ((cy : Int) + (dx : Int) + (dy : Int)) / 4294967296 = (c2 : Int) := by have hz := HZ.out; rw [hc2]; omega
    have hxl : x < B := by rw [hx]; exact Nat.mod_lt _ (by decide)
    have hcl : c2 ≤ 1 := by rw [hc2]; omega
    have hstep := add_step (a := dx) (b := dy) HL.out HV.out; rw [← hx, ← hc2, HDX.out, HDY.out, ← val_take_next, ← val_take_next] at hstep; have HS := Hd.mk hstep; clear hx hc2 hstep; go_wp2_with (first | (at_builtin; (refine wpList_append_any _ rfl (.tmp 49) (.tmp 52) 45 rfl w.heap.size 37 i0 (.int .u32 0) 1 4 Tryd.underlying45 hi hz0 hz1 hz2 rfl (by decide) v k (cells ds) rfl (HO.out.alloc _) _ (some ⟨wr.heap.size, 0, none⟩) 1 1 (cells [x]) rfl (reads_new _ _ _) (cells_one _) (by unfold maxLen; omega) (by omega) (by have := HB.out.size; simp; omega) ?_; intro v1 w1 hown1 hg1 hat1)))
    rw [← cells_append] at hown1; go_roundw
    case rel => exact ⟨_, k + 1, c2, ds ++ [x], rfl, by omega, by go_num, rfl, hcl, by rw [List.length_append, HL.out]; rfl, dg_append HD.out (dg_one hxl), HS.out, hown1, (below_alloc HB.out _).grown hg1 (by have := HB.out.size; simp; omega) (own_ge HO.out)⟩
    case measure => simp [intOf]; omega
   have hdy0 : dy = 0 := by rw [HDY.out]; exact getD_zero_of_le (by unfold ln at hkn; omega)
   have HZ := Hd.mk hdy0; clear hdy0; try (exfalso; omega)
   all_goals
    obtain ⟨x, hx⟩ : ∃ x : Nat, x = (dx + dy + cy) % 4294967296 := ⟨_, rfl⟩; obtain ⟨c2, hc2⟩ : ∃ c2 : Nat, c2 = (dx + dy + cy) / 4294967296 := ⟨_, rfl⟩; have hx' : ((cy : Int) + (dx : Int)) % 4294967296 = (x : Int) := by have hz := HZ.out; rw [hx]; omega
    have hc' : ((cy : Int) + (dx : Int)) / 4294967296 = (c2 : Int) := by have hz := HZ.out; rw [hc2]; omega
    have hxl : x < B := by rw [hx]; exact Nat.mod_lt _ (by decide)
    have hcl : c2 ≤ 1 := by rw [hc2]; omega
    have hstep := add_step (a := dx) (b := dy) HL.out HV.out; rw [← hx, ← hc2, HDX.out, HDY.out, ← val_take_next, ← val_take_next] at hstep; have HS := Hd.mk hstep; clear hx hc2 hstep; go_wp2_with (first | (at_builtin; (refine wpList_append_any _ rfl (.tmp 49) (.tmp 52) 45 rfl w.heap.size 37 i0 (.int .u32 0) 1 4 Tryd.underlying45 hi hz0 hz1 hz2 rfl (by decide) v k (cells ds) rfl (HO.out.alloc _) _ (some ⟨wr.heap.size, 0, none⟩) 1 1 (cells [x]) rfl (reads_new _ _ _) (cells_one _) (by unfold maxLen; omega) (by omega) (by have := HB.out.size; simp; omega) ?_; intro v1 w1 hown1 hg1 hat1)))
    rw [← cells_append] at hown1; go_roundw
    case rel => exact ⟨_, k + 1, c2, ds ++ [x], rfl, by omega, by go_num, rfl, hcl, by rw [List.length_append, HL.out]; rfl, dg_append HD.out (dg_one hxl), HS.out, hown1, (below_alloc HB.out _).grown hg1 (by have := HB.out.size; simp; omega) (own_ge HO.out)⟩
    case measure => simp [intOf]; omega
  have hdx0 : dx = 0 := by rw [HDX.out]; exact getD_zero_of_le (by unfold ln at hkm; omega)
  have HZ := Hd.mk hdx0; clear hdx0; by_cases hkn : k < ln n
  ·obtain ⟨a2, rfl, hcell2⟩ := (HY.out.to HB.out).at_ hkn; rw [← HDY.out] at hcell2; try (exfalso; omega)
   all_goals
    obtain ⟨x, hx⟩ : ∃ x : Nat, x = (dx + dy + cy) % 4294967296 := ⟨_, rfl⟩; obtain ⟨c2, hc2⟩ : ∃ c2 : Nat, c2 = (dx + dy + cy) / 4294967296 := ⟨_, rfl⟩; have hx' : ((cy : Int) + (dy : Int)) % 4294967296 = (x : Int) := by have hz := HZ.out; rw [hx]; omega
    have hc' : ((cy : Int) + (dy : Int)) / 4294967296 = (c2 : Int) := by have hz := HZ.out; rw [hc2]; omega
    have hxl : x < B := by rw [hx]; exact Nat.mod_lt _ (by decide)
    have hcl : c2 ≤ 1 := by rw [hc2]; omega
    have hstep := add_step (a := dx) (b := dy) HL.out HV.out; rw [← hx, ← hc2, HDX.out, HDY.out, ← val_take_next, ← val_take_next] at hstep; have HS := Hd.mk hstep; clear hx hc2 hstep; go_wp2_with (first | (at_builtin; (refine wpList_append_any _ rfl (.tmp 49) (.tmp 52) 45 rfl w.heap.size 37 i0 (.int .u32 0) 1 4 Tryd.underlying45 hi hz0 hz1 hz2 rfl (by decide) v k (cells ds) rfl (HO.out.alloc _) _ (some ⟨wr.heap.size, 0, none⟩) 1 1 (cells [x]) rfl (reads_new _ _ _) (cells_one _) (by unfold maxLen; omega) (by omega) (by have := HB.out.size; simp; omega) ?_; intro v1 w1 hown1 hg1 hat1)))
    rw [← cells_append] at hown1; go_roundw
    case rel => exact ⟨_, k + 1, c2, ds ++ [x], rfl, by omega, by go_num, rfl, hcl, by rw [List.length_append, HL.out]; rfl, dg_append HD.out (dg_one hxl), HS.out, hown1, (below_alloc HB.out _).grown hg1 (by have := HB.out.size; simp; omega) (own_ge HO.out)⟩
    case measure => simp [intOf]; omega
  have hke : k = ln m := by omega
  have hv2 : val (ds ++ [cy]) = m + n := by
   rw [val_snoc, HL.out, HV.out, val_take_all (by omega), val_take_all (by omega)]
  have hcyx : (cy : Int) % 4294967296 = (cy : Int) := by omega
  have HC := Hd.mk hv2; have hdd2 : Dg (ds ++ [cy]) := dg_append HD.out (dg_one (by unfold B; omega)); have HD2 := Hd.mk hdd2; have hfin : ln (m + n) ≤ ln m + 1 := Nat.le_trans (ln_add m n) (by omega); have HKE := Hd.mk hke; clear hv2 hdd2 hke hdx1 hdy1; go_wp2_with (first | (at_builtin; (refine wpList_append_any _ rfl (.tmp 56) (.tmp 59) 45 rfl w.heap.size 37 i0 (.int .u32 0) 1 4 Tryd.underlying45 hi hz0 hz1 hz2 rfl (by decide) v k (cells ds) rfl (HO.out.alloc _) _ (some ⟨wr.heap.size, 0, none⟩) 1 1 (cells [cy]) rfl (reads_new _ _ _) (cells_one _) (by unfold maxLen; omega) (by omega) (by have := HB.out.size; simp; omega) ?_; intro v1 w1 hown1 hg1 hat1; rw [← cells_append] at hown1; have hl : (ds ++ [cy]).length = k + 1 := (by rw [List.length_append, HL.out]; rfl); have hown2 : w1.ownsRow w.heap.size 37 1 v1 (ds ++ [cy]).length (cells (ds ++ [cy])) := (by rw [hl]; exact hown1); obtain ⟨A3, c3, hv3, hrn, hc3, hcm⟩ := own_slice hown2; subst hv3; rw [hl] at hc3 ⊢; have HR := Hd.mk hrn; have HT := Hd.mk (trim_calls A3 c3 (ds ++ [cy]) w1 hrn HD2.out (by rw [hl]; exact hc3) hcm); rw [hl, HC.out] at HT; have hb1 := (below_alloc HB.out (.cells #[.int .u32 ((cy : Nat) : Int)] 37)).grown hg1 (by have := HB.out.size; simp; omega) (own_ge HO.out); have HB1 := Hd.mk hb1; clear hrn hl hown1 hown2 hg1 hat1 hb1)) | (go_at_call 36; refine HT.out.mono ?_; rintro e w' ⟨rfl, rfl⟩))
  go_ret
  refine ⟨_, _, rfl, ⟨?_, by omega, hcm⟩, HB1.out⟩; have := HR.out.of_take HD2.out; rwa [HC.out] at this
end Go.Proofs.YtdfhhceboacdcaaDoor
set_option linter.unusedVariables false
namespace Go.Proofs.YtdfhhceboacdcaaDoor
open Go.RowKit
set_option maxRecDepth 100000 in
theorem add_calls (A1 : Option Addr) (c1 m : Nat) (A2 : Option Addr) (c2 n : Nat) (w : World) (h1 : NN w A1 c1 m) (h2 : NN w A2 c2 n) (l1 : ln m ≤ 1073741824) (l2 : ln n ≤ 1073741824) :
  Calls Tryd.prog 12 #[.slice A1 (ln m) c1, .slice A2 (ln n) c2] w (RetN (m + n) w) := by
 by_cases hlt : ln m < ln n
 ·have HX := Hd.mk h2; have HY := Hd.mk h1; clear h1 h2; have hgt := Nat.le_of_not_lt (fun h => by omega : ¬ ln n < ln m); have hmk := fun W => make_words 34 Tryd.underlying34 ((ln n : Int) + 1) (ln n + 1) (by omega) (by omega) W
  go_enter Tryd.func12, Tryd.ntmps12
  go_wp2
  clear hmk; go_loopw [6, 22] (fun s6 s22 wr => ∃ (k cy : Nat) (ds : List Nat), k ≤ ln n ∧ s22 = .int .i64 k ∧ s6 = .int .u32 ((cy : Nat) : Int) ∧ cy ≤ 1 ∧ ds.length = k ∧ Dg ds ∧ val ds + B ^ k * cy = val ((dig n).take k) + val ((dig m).take k) ∧ Blk wr w.heap.size 37 (cells (ds ++ List.replicate (ln n + 1 - k) 0)) ∧ Below w.heap.size w wr) (fun _ s22 _ => ln n - (intOf s22).toNat)
  case atStart => exact ⟨0, 0, [], Nat.zero_le _, rfl, rfl, Nat.zero_le _, rfl, (fun x hx => by cases hx), by simp [val], heap_alloc_new w _, below_alloc (Below.refl _ _) _⟩
  case round =>
   obtain ⟨k, cy, ds, hk, rfl, rfl, hcy, hdl, hdd, hval, hblk, hbel⟩ := hrel; have HV := Hd.mk hval; have HK := Hd.mk hblk; have HL := Hd.mk hdl; have HB := Hd.mk hbel; have HDD := Hd.mk hdd; have hfz := hblk.frozen k; have hck := hblk.at_ (i := k) (by simp; omega); clear hval hblk hdl hbel hdd; by_cases hkl : k < ln n
   ·obtain ⟨a1, rfl, hcell1⟩ := (HX.out.to HB.out).at_ hkl; obtain ⟨dx, hdx⟩ : ∃ dx, dx = (dig n).getD k 0 := ⟨_, rfl⟩; have hdx1 : dx < 4294967296 := by rw [hdx]; exact dg_get (dg_dig _) k
    obtain ⟨dy, hdy⟩ : ∃ dy, dy = (dig m).getD k 0 := ⟨_, rfl⟩; have hdy1 : dy < 4294967296 := by rw [hdy]; exact dg_get (dg_dig _) k
    rw [← hdx] at hcell1; have hz := get_zero ds (ln n + 1 - k) k (by have := HL.out; omega); rw [hz] at hck
    have hrel' : val (ds ++ [(dx + dy + cy) % 4294967296]) + B ^ (k + 1) * ((dx + dy + cy) / 4294967296) = val ((dig n).take (k + 1)) + val ((dig m).take (k + 1)) := by
     rw [val_take_next, val_take_next, ← hdx, ← hdy]; exact add_step HL.out HV.out
    have hput : Blk (wr.setCell ⟨w.heap.size, k, none⟩ (.int .u32 (((dx + dy + cy) % 4294967296 : Nat) : Int))) w.heap.size 37 (cells ((ds ++ [(dx + dy + cy) % 4294967296]) ++ List.replicate (ln n + 1 - (k + 1)) 0)) := by
     have := HK.out.put k ((dx + dy + cy) % 4294967296); rw [← HL.out, set_next ds _ _ (by have := HL.out; omega)] at this; rw [← HL.out]; exact this
    have HR := Hd.mk hrel'; have HP := Hd.mk hput; have HDY := Hd.mk hdy; clear hrel' hput hz hdx; by_cases hkq : k < ln m
    ·obtain ⟨a2, rfl, hcell2⟩ := (HY.out.to HB.out).at_ hkq; rw [← hdy] at hcell2; clear hdy; go_wp2_with (first | (go_at_call 32; refine (add32_calls dx dy cy hdx1 hdy1 hcy _).mono ?_; rintro e w' ⟨rfl, rfl⟩))
     go_roundw
     case rel => exact ⟨k + 1, (dx + dy + cy) / 4294967296, ds ++ [(dx + dy + cy) % 4294967296], by omega, by go_num, rfl, by omega, by rw [List.length_append, HL.out]; rfl, dg_append HDD.out (mod_dg _), HR.out, HP.out, below_set HB.out (Nat.le_refl _) _⟩
     case measure => simp [intOf]; omega
    have hdy0 : dy = 0 := by rw [hdy]; exact getD_zero_of_le (by unfold ln at hkq; omega)
    subst hdy0; clear hdy; go_wp2_with (first | (go_at_call 32; refine (add32_calls dx 0 cy hdx1 hdy1 hcy _).mono ?_; rintro e w' ⟨rfl, rfl⟩))
    go_roundw
    case rel => exact ⟨k + 1, (dx + 0 + cy) / 4294967296, ds ++ [(dx + 0 + cy) % 4294967296], by omega, by go_num, rfl, by omega, by rw [List.length_append, HL.out]; rfl, dg_append HDD.out (mod_dg _), HR.out, HP.out, below_set HB.out (Nat.le_refl _) _⟩
    case measure => simp [intOf]; omega
   have hke : k = ln n := by omega
   subst hke
   have hput : Blk (wr.setCell ⟨w.heap.size, ln n, none⟩ (.int .u32 ((cy : Nat) : Int))) w.heap.size 37 (cells (ds ++ [cy])) := by
    have := HK.out.put (ln n) cy; rw [← HL.out, set_next ds _ _ (by have := HL.out; omega)] at this; rw [← HL.out]; simpa using this
   have hdd2 : Dg (ds ++ [cy]) := dg_append HDD.out (dg_one (by unfold B; omega))
   have hv2 : val (ds ++ [cy]) = m + n := by
    rw [val_snoc, HL.out, HV.out, val_take_all (Nat.le_refl _), val_take_all hgt]
    all_goals omega
   have hlen : (ds ++ [cy]).length = ln n + 1 := by rw [List.length_append, HL.out]; rfl
   have hc := norm_calls (some ⟨w.heap.size, 0, none⟩) (ln n + 1) (ds ++ [cy]) _ hput.reads hdd2 (by omega) (by omega); have hrn := hput.reads.of_take hdd2; rw [hlen, hv2] at hc; rw [hv2] at hrn; have hfin : ln (m + n) ≤ ln n + 1 := Nat.le_trans (ln_add m n) (by omega); have HC := Hd.mk hc; have HRN := Hd.mk hrn; clear hput hdd2 hv2 hlen hc hrn; go_wp2_with (first | (go_at_call 31; refine HC.out.mono ?_; rintro e w' ⟨rfl, rfl⟩))
   go_ret
   exact ⟨_, _, rfl, ⟨HRN.out, hfin, by omega⟩, below_set HB.out (Nat.le_refl _) _⟩
 have HX := Hd.mk h1; have HY := Hd.mk h2; clear h1 h2; have hgt := Nat.le_of_not_lt (fun h => by omega : ¬ ln m < ln n); have hmk := fun W => make_words 34 Tryd.underlying34 ((ln m : Int) + 1) (ln m + 1) (by omega) (by omega) W
 go_enter Tryd.func12, Tryd.ntmps12
 go_wp2
 clear hmk; go_loopw [6, 22] (fun s6 s22 wr => ∃ (k cy : Nat) (ds : List Nat), k ≤ ln m ∧ s22 = .int .i64 k ∧ s6 = .int .u32 ((cy : Nat) : Int) ∧ cy ≤ 1 ∧ ds.length = k ∧ Dg ds ∧ val ds + B ^ k * cy = val ((dig m).take k) + val ((dig n).take k) ∧ Blk wr w.heap.size 37 (cells (ds ++ List.replicate (ln m + 1 - k) 0)) ∧ Below w.heap.size w wr) (fun _ s22 _ => ln m - (intOf s22).toNat)
 case atStart => exact ⟨0, 0, [], Nat.zero_le _, rfl, rfl, Nat.zero_le _, rfl, (fun x hx => by cases hx), by simp [val], heap_alloc_new w _, below_alloc (Below.refl _ _) _⟩
 case round =>
  obtain ⟨k, cy, ds, hk, rfl, rfl, hcy, hdl, hdd, hval, hblk, hbel⟩ := hrel; have HV := Hd.mk hval; have HK := Hd.mk hblk; have HL := Hd.mk hdl; have HB := Hd.mk hbel; have HDD := Hd.mk hdd; have hfz := hblk.frozen k; have hck := hblk.at_ (i := k) (by simp; omega); clear hval hblk hdl hbel hdd; by_cases hkl : k < ln m
  ·obtain ⟨a1, rfl, hcell1⟩ := (HX.out.to HB.out).at_ hkl; obtain ⟨dx, hdx⟩ : ∃ dx, dx = (dig m).getD k 0 := ⟨_, rfl⟩; have hdx1 : dx < 4294967296 := by rw [hdx]; exact dg_get (dg_dig _) k
   obtain ⟨dy, hdy⟩ : ∃ dy, dy = (dig n).getD k 0 := ⟨_, rfl⟩; have hdy1 : dy < 4294967296 := by rw [hdy]; exact dg_get (dg_dig _) k
   rw [← hdx] at hcell1; have hz := get_zero ds (ln m + 1 - k) k (by have := HL.out; omega); rw [hz] at hck
   have hrel' : val (ds ++ [(dx + dy + cy) % 4294967296]) + B ^ (k + 1) * ((dx + dy + cy) / 4294967296) = val ((dig m).take (k + 1)) + val ((dig n).take (k + 1)) := by
    rw [val_take_next, val_take_next, ← hdx, ← hdy]; exact add_step HL.out HV.out
   have hput : Blk (wr.setCell ⟨w.heap.size, k, none⟩ (.int .u32 (((dx + dy + cy) % 4294967296 : Nat) : Int))) w.heap.size 37 (cells ((ds ++ [(dx + dy + cy) % 4294967296]) ++ List.replicate (ln m + 1 - (k + 1)) 0)) := by
    have := HK.out.put k ((dx + dy + cy) % 4294967296); rw [← HL.out, set_next ds _ _ (by have := HL.out; omega)] at this; rw [← HL.out]; exact this
   have HR := Hd.mk hrel'; have HP := Hd.mk hput; have HDY := Hd.mk hdy; clear hrel' hput hz hdx; by_cases hkq : k < ln n
   ·obtain ⟨a2, rfl, hcell2⟩ := (HY.out.to HB.out).at_ hkq; rw [← hdy] at hcell2; clear hdy; go_wp2_with (first | (go_at_call 32; refine (add32_calls dx dy cy hdx1 hdy1 hcy _).mono ?_; rintro e w' ⟨rfl, rfl⟩))
    go_roundw
    case rel => exact ⟨k + 1, (dx + dy + cy) / 4294967296, ds ++ [(dx + dy + cy) % 4294967296], by omega, by go_num, rfl, by omega, by rw [List.length_append, HL.out]; rfl, dg_append HDD.out (mod_dg _), HR.out, HP.out, below_set HB.out (Nat.le_refl _) _⟩
    case measure => simp [intOf]; omega
   have hdy0 : dy = 0 := by rw [hdy]; exact getD_zero_of_le (by unfold ln at hkq; omega)
   subst hdy0; clear hdy; go_wp2_with (first | (go_at_call 32; refine (add32_calls dx 0 cy hdx1 hdy1 hcy _).mono ?_; rintro e w' ⟨rfl, rfl⟩))
   go_roundw
   case rel => exact ⟨k + 1, (dx + 0 + cy) / 4294967296, ds ++ [(dx + 0 + cy) % 4294967296], by omega, by go_num, rfl, by omega, by rw [List.length_append, HL.out]; rfl, dg_append HDD.out (mod_dg _), HR.out, HP.out, below_set HB.out (Nat.le_refl _) _⟩
   case measure => simp [intOf]; omega
  have hke : k = ln m := by omega
  subst hke
  have hput : Blk (wr.setCell ⟨w.heap.size, ln m, none⟩ (.int .u32 ((cy : Nat) : Int))) w.heap.size 37 (cells (ds ++ [cy])) := by
   have := HK.out.put (ln m) cy; rw [← HL.out, set_next ds _ _ (by have := HL.out; omega)] at this; rw [← HL.out]; simpa using this
  have hdd2 : Dg (ds ++ [cy]) := dg_append HDD.out (dg_one (by unfold B; omega))
  have hv2 : val (ds ++ [cy]) = m + n := by
   rw [val_snoc, HL.out, HV.out, val_take_all (Nat.le_refl _), val_take_all hgt]
   all_goals omega
  have hlen : (ds ++ [cy]).length = ln m + 1 := by rw [List.length_append, HL.out]; rfl
  have hc := norm_calls (some ⟨w.heap.size, 0, none⟩) (ln m + 1) (ds ++ [cy]) _ hput.reads hdd2 (by omega) (by omega); have hrn := hput.reads.of_take hdd2; rw [hlen, hv2] at hc; rw [hv2] at hrn; have hfin : ln (m + n) ≤ ln m + 1 := Nat.le_trans (ln_add m n) (by omega); have HC := Hd.mk hc; have HRN := Hd.mk hrn; clear hput hdd2 hv2 hlen hc hrn; go_wp2_with (first | (go_at_call 31; refine HC.out.mono ?_; rintro e w' ⟨rfl, rfl⟩))
  go_ret
  exact ⟨_, _, rfl, ⟨HRN.out, hfin, by omega⟩, below_set HB.out (Nat.le_refl _) _⟩
theorem sub_digit {x y c : Nat} (hx : x < 4294967296) (hy : y < 4294967296) (hc : c ≤ 1) : (4294967296 + x - y - c) % 4294967296 + y + c = x + 4294967296 * (if x < y + c then 1 else 0) := by
 split <;> omega
theorem sub_step {ds : List Nat} {k cy a b X Y : Nat} (hl : ds.length = k) (ha : a < 4294967296) (hb : b < 4294967296) (hc : cy ≤ 1) (h : val ds + Y = X + B ^ k * cy) :
  val (ds ++ [(4294967296 + a - b - cy) % 4294967296]) + (Y + B ^ k * b) = (X + B ^ k * a) + B ^ (k + 1) * (if a < b + cy then 1 else 0) := by
 have e := sub_digit ha hb hc; generalize (4294967296 + a - b - cy) % 4294967296 = d at e ⊢; generalize (if a < b + cy then 1 else 0 : Nat) = z at e ⊢; rw [val_snoc, hl, Nat.pow_succ, Nat.mul_assoc]; have e2 : B ^ k * (d + b + cy) = B ^ k * (a + B * z) := by rw [e]; rfl
 rw [Nat.mul_add, Nat.mul_add, Nat.mul_add] at e2; omega
set_option maxRecDepth 100000 in
theorem sub_calls (A1 : Option Addr) (c1 m : Nat) (A2 : Option Addr) (c2 n : Nat) (w : World) (h1 : NN w A1 c1 m) (h2 : NN w A2 c2 n) (hnm : n ≤ m) (l1 : ln m ≤ 1073741824) :
  Calls Tryd.prog 46 #[.slice A1 (ln m) c1, .slice A2 (ln n) c2] w (RetN (m - n) w) := by
 have HX := Hd.mk h1; have HY := Hd.mk h2; clear h1 h2; have hgt := ln_mono hnm; have hmk := fun W => make_words 34 Tryd.underlying34 (ln m : Int) (ln m) (by omega) (by omega) W
 go_enter Tryd.func46, Tryd.ntmps46
 go_wp2
 clear hmk; go_loopw [6, 14] (fun s6 s22 wr => ∃ (k cy : Nat) (ds : List Nat), k ≤ ln m ∧ s22 = .int .i64 k ∧ s6 = .int .u32 ((cy : Nat) : Int) ∧ cy ≤ 1 ∧ ds.length = k ∧ Dg ds ∧ val ds + val ((dig n).take k) = val ((dig m).take k) + B ^ k * cy ∧ Blk wr w.heap.size 37 (cells (ds ++ List.replicate (ln m - k) 0)) ∧ Below w.heap.size w wr) (fun _ s22 _ => ln m - (intOf s22).toNat)
 case atStart => exact ⟨0, 0, [], Nat.zero_le _, rfl, rfl, Nat.zero_le _, rfl, (fun x hx => by cases hx), by simp [val], heap_alloc_new w _, below_alloc (Below.refl _ _) _⟩
 case round =>
  obtain ⟨k, cy, ds, hk, rfl, rfl, hcy, hdl, hdd, hval, hblk, hbel⟩ := hrel; have HV := Hd.mk hval; have HK := Hd.mk hblk; have HL := Hd.mk hdl; have HB := Hd.mk hbel; have HDD := Hd.mk hdd; have hfz := hblk.frozen k; have hck : k < ln m → _ := fun hh => hblk.at_ (i := k) (by simp; omega)
  clear hval hblk hdl hbel hdd; by_cases hkl : k < ln m
  ·have hck := hck hkl; obtain ⟨a1, rfl, hcell1⟩ := (HX.out.to HB.out).at_ hkl; obtain ⟨dx, hdx⟩ : ∃ dx, dx = (dig m).getD k 0 := ⟨_, rfl⟩; have hdx1 : dx < 4294967296 := by rw [hdx]; exact dg_get (dg_dig _) k
   obtain ⟨dy, hdy⟩ : ∃ dy, dy = (dig n).getD k 0 := ⟨_, rfl⟩; have hdy1 : dy < 4294967296 := by rw [hdy]; exact dg_get (dg_dig _) k
   rw [← hdx] at hcell1; have hz := get_zero ds (ln m - k) k (by have := HL.out; omega); rw [hz] at hck
   have hrel' : val (ds ++ [(4294967296 + dx - dy - cy) % 4294967296]) + val ((dig n).take (k + 1)) = val ((dig m).take (k + 1)) + B ^ (k + 1) * (if dx < dy + cy then 1 else 0) := by
    rw [val_take_next, val_take_next, ← hdx, ← hdy]; exact sub_step HL.out hdx1 hdy1 hcy HV.out
   have hput : Blk (wr.setCell ⟨w.heap.size, k, none⟩ (.int .u32 (((4294967296 + dx - dy - cy) % 4294967296 : Nat) : Int))) w.heap.size 37 (cells ((ds ++ [(4294967296 + dx - dy - cy) % 4294967296]) ++ List.replicate (ln m - (k + 1)) 0)) := by
    have := HK.out.put k ((4294967296 + dx - dy - cy) % 4294967296); rw [← HL.out, set_next ds _ _ (by have := HL.out; omega)] at this; rw [← HL.out]; exact this
   have hb1 : (if dx < dy + cy then 1 else 0 : Nat) ≤ 1 := by split <;> omega
   obtain ⟨bw, hbw⟩ : ∃ bw : Nat, bw = (if dx < dy + cy then 1 else 0 : Nat) := ⟨_, rfl⟩; obtain ⟨dd, hddq⟩ : ∃ dd : Nat, dd = (4294967296 + dx - dy - cy) % 4294967296 := ⟨_, rfl⟩; have hddl : dd < B := by rw [hddq]; exact Nat.mod_lt _ (by decide)
   have HS := Hd.mk (fun W => sub32_calls dx dy cy hdx1 hdy1 hcy W); rw [← hbw, ← hddq] at hrel' HS; rw [← hddq] at hput; rw [← hbw] at hb1; have HR := Hd.mk hrel'; have HP := Hd.mk hput; have HDY := Hd.mk hdy; clear hrel' hput hz hdx hbw hddq; by_cases hkq : k < ln n
   ·obtain ⟨a2, rfl, hcell2⟩ := (HY.out.to HB.out).at_ hkq; rw [← hdy] at hcell2; clear hdy; go_wp2_with (first | (go_at_call 58; refine (HS.out _).mono ?_; rintro e w' ⟨rfl, rfl⟩))
    go_roundw
    case rel => exact ⟨k + 1, bw, ds ++ [dd], by omega, by go_num, rfl, hb1, by rw [List.length_append, HL.out]; rfl, dg_append HDD.out (dg_one hddl), HR.out, HP.out, below_set HB.out (Nat.le_refl _) _⟩
    case measure => simp [intOf]; omega
   have hdy0 : dy = 0 := by rw [hdy]; exact getD_zero_of_le (by unfold ln at hkq; omega)
   subst hdy0; clear hdy; go_wp2_with (first | (go_at_call 58; refine (HS.out _).mono ?_; rintro e w' ⟨rfl, rfl⟩))
   go_roundw
   case rel => exact ⟨k + 1, bw, ds ++ [dd], by omega, by go_num, rfl, hb1, by rw [List.length_append, HL.out]; rfl, dg_append HDD.out (dg_one hddl), HR.out, HP.out, below_set HB.out (Nat.le_refl _) _⟩
   case measure => simp [intOf]; omega
  have hke : k = ln m := by omega
  subst hke
  have hv2 : val ds = m - n := by
   have h1 := HV.out; rw [val_take_all (Nat.le_refl _), val_take_all hgt] at h1; have h2 := val_lt HDD.out; rw [HL.out] at h2; rcases Nat.lt_or_ge cy 1 with h3 | h3
   ·have : cy = 0 := by omega
    subst this; simp at h1; omega
   have : cy = 1 := by omega
   subst this; simp at h1; omega
  have hput : Blk wr w.heap.size 37 (cells ds) := by
   have := HK.out; simpa using this
  have hc := norm_calls (some ⟨w.heap.size, 0, none⟩) (ln m) ds _ hput.reads HDD.out (by have := HL.out; omega) (by omega); have hrn := hput.reads.of_take HDD.out; rw [HL.out, hv2] at hc; rw [hv2] at hrn; have hfin : ln (m - n) ≤ ln m := ln_mono (Nat.sub_le _ _); have HC := Hd.mk hc; have HRN := Hd.mk hrn; clear hput hv2 hc hrn hck; go_wp2_with (first | (go_at_call 31; refine HC.out.mono ?_; rintro e w' ⟨rfl, rfl⟩))
  go_ret
  exact ⟨_, _, rfl, ⟨HRN.out, hfin, by omega⟩, HB.out⟩
theorem sub64_low1 (x c : Nat) (d : Nat) (h : (d : Int) = ((x : Int) - c) % 4294967296) : IntKind.u64.wrap ((x : Int) - c) % 4294967296 = (d : Int) := by
 rw [IntKind.wrap_u64]; omega
theorem sub64_low2 (x c y : Nat) (d : Nat) (h : (d : Int) = ((x : Int) - c - y) % 4294967296) : IntKind.u64.wrap (IntKind.u64.wrap ((x : Int) - c) - y) % 4294967296 = (d : Int) := by
 rw [IntKind.wrap_u64, IntKind.wrap_u64]; omega
theorem sub64_high1 (x c : Nat) (hx : x < 4294967296) (hc : c ≤ 1) (b : Nat) (h : b = if x < c then 1 else 0) : IntKind.u64.wrap ((x : Int) - c) / 9223372036854775808 = (b : Int) := by
 rw [IntKind.wrap_u64, h]; split <;> omega
theorem sub64_high2 (x y c : Nat) (hx : x < 4294967296) (hy : y < 4294967296) (hc : c ≤ 1) (b : Nat) (h : b = if x < y + c then 1 else 0) : IntKind.u64.wrap (IntKind.u64.wrap ((x : Int) - c) - y) / 9223372036854775808 = (b : Int) := by
 rw [IntKind.wrap_u64, IntKind.wrap_u64, h]; split <;> omega
set_option maxRecDepth 100000 in
theorem mul_school (A1 : Option Addr) (c1 m : Nat) (A2 : Option Addr) (c2 n : Nat) (w : World) (h1 : NN w A1 c1 m) (h2 : NN w A2 c2 n) (l1 : ln m ≤ 1073741824) (l2 : ln n ≤ 1073741824) (hs : ln m < 40 ∨ ln n < 40) :
  Calls Tryd.prog 11 #[.slice A1 (ln m) c1, .slice A2 (ln n) c2] w (RetN (m * n) w) := by
 by_cases hlt : ln m < ln n
 ·have HX := Hd.mk h2; have HY := Hd.mk h1; clear h1 h2; have hgt := Nat.le_of_not_lt (fun h => by omega : ¬ ln n < ln m); have h40 : ln m < 40 := by omega
  have hmk := fun W => make_words 34 Tryd.underlying34 ((ln n : Int) + (ln m : Int)) (ln n + ln m) (by omega) (by omega) W
  go_enter Tryd.func11, Tryd.ntmps11
  go_wp2
  clear hmk; go_loopw [33] (fun s33 wr => ∃ (i : Nat) (ds : List Nat), i ≤ ln m ∧ s33 = .int .i64 i ∧ ds.length = ln n + ln m ∧ Dg ds ∧ val ds = n * val ((dig m).take i) ∧ (∀ t, i + ln n ≤ t → ds.getD t 0 = 0) ∧ Blk wr w.heap.size 37 (cells ds) ∧ Below w.heap.size w wr) (fun s _ => ln m - (intOf s).toNat)
  case atStart => exact ⟨0, List.replicate (ln n + ln m) 0, Nat.zero_le _, rfl, by simp, dg_zeros _, by rw [val_zeros]; simp [val], fun t _ => getD_zeros _ t, heap_alloc_new w _, below_alloc (Below.refl _ _) _⟩
  case round =>
   obtain ⟨i, ds, hi, rfl, hdl, hdd, hval, hzz, hblk, hbel⟩ := hrel; have HV := Hd.mk hval; have HK := Hd.mk hblk; have HL := Hd.mk hdl; have HB := Hd.mk hbel; have HDD := Hd.mk hdd; have HZZ := Hd.mk hzz; clear hval hblk hdl hbel hdd hzz; by_cases hil : i < ln m
   ·obtain ⟨a2, rfl, hcell2⟩ := (HY.out.to HB.out).at_ hil; obtain ⟨x, hx⟩ : ∃ x, x = (dig m).getD i 0 := ⟨_, rfl⟩; have hx1 : x < 4294967296 := by rw [hx]; exact dg_get (dg_dig _) i
    rw [← hx] at hcell2; have HXX := Hd.mk hx; clear hx; obtain ⟨wo, hwo⟩ : ∃ wo : World, wo = wr := ⟨_, rfl⟩; subst hwo; go_wp2_with fail
    go_loopw [8, 40] (fun s8 s40 wr => ∃ (j c : Nat) (es : List Nat), j ≤ ln n ∧ s40 = .int .i64 j ∧ s8 = .int .u64 ((c : Nat) : Int) ∧ c < 4294967296 ∧ es.length = ln n + ln m ∧ Dg es ∧ val es + B ^ (i + j) * c = val ds + B ^ i * (x * val ((dig n).take j)) ∧ (∀ t, i + ln n ≤ t → es.getD t 0 = 0) ∧ Blk wr w.heap.size 37 (cells es) ∧ Below w.heap.size w wr) (fun _ s _ => ln n - (intOf s).toNat)
    case atStart => exact ⟨0, 0, ds, Nat.zero_le _, rfl, rfl, by decide, HL.out, HDD.out, by simp [val], HZZ.out, HK.out, HB.out⟩
    case round =>
     obtain ⟨j, c, es, hj, rfl, rfl, hc, hel, hed, hval, hzz, hblk, hbel⟩ := hrel; have HV2 := Hd.mk hval; have HK2 := Hd.mk hblk; have HL2 := Hd.mk hel; have HB2 := Hd.mk hbel; have HDD2 := Hd.mk hed; have HZZ2 := Hd.mk hzz; clear hval hblk hel hbel hed hzz; by_cases hjl : j < ln n
     ·obtain ⟨a1, rfl, hcell1⟩ := (HX.out.to HB2.out).at_ hjl; obtain ⟨y, hy⟩ : ∃ y, y = (dig n).getD j 0 := ⟨_, rfl⟩; have hy1 : y < 4294967296 := by rw [hy]; exact dg_get (dg_dig _) j
      rw [← hy] at hcell1; have hck := HK2.out.at_ (i := i + j) (by have := HL2.out; omega); have hfz := HK2.out.frozen (i + j); have hstep := mul_step (ds := es) (y := y) (by have := HL2.out; omega) HV2.out; have hput := HK2.out.put (i + j) ((x * y + es.getD (i + j) 0 + c) % 4294967296); have ho : es.getD (i + j) 0 < 4294967296 := dg_get HDD2.out (i + j); obtain ⟨o, ho'⟩ : ∃ o, o = es.getD (i + j) 0 := ⟨_, rfl⟩; rw [← ho'] at hck hstep hput ho; have hfit := mul_fits hx1 hy1 ho hc; obtain ⟨p, hp⟩ : ∃ p, p = x * y := ⟨_, rfl⟩; have hp' : (x : Int) * (y : Int) = (p : Int) := by rw [hp]; exact (Int.natCast_mul x y).symm
      rw [← hp] at hfit hstep hput; obtain ⟨hf1, hf2, hf3⟩ := hfit; have e1 : (((p + o + c) % 4294967296 : Nat) : Int) = ((p : Int) + (o : Int) + (c : Int)) % 4294967296 := by omega
      have e2 : (((p + o + c) / 4294967296 : Nat) : Int) = ((p : Int) + (o : Int) + (c : Int)) / 4294967296 := by omega
      have e3 : ((i : Int) + (j : Int)).toNat = i + j := by omega
      have HS := Hd.mk hstep; have HP := Hd.mk hput; have HYY := Hd.mk hy; have E1 := Hd.mk e1; have E2 := Hd.mk e2; clear hstep hput hy ho' hp e1 e2; have hw64 : (p : Int) + (o : Int) + (c : Int) ≤ 18446744073709551615 := by omega
      go_wp2_with fail
      go_roundw
      case rel =>
       refine ⟨j + 1, (p + o + c) / 4294967296, es.set (i + j) ((p + o + c) % 4294967296), by omega, by go_num, by rw [E2.out], hf3, by rw [List.length_set]; exact HL2.out, dg_set HDD2.out _ (Nat.mod_lt _ (by decide)), ?_, ?_, ?_, below_set HB2.out (Nat.le_refl _) _⟩
       ·rw [val_take_next, ← HYY.out]; exact HS.out
       ·intro t ht; rw [getD_set_ne (by omega)]; exact HZZ2.out t ht
       rw [← E1.out]; exact HP.out
      case measure => simp [intOf]; omega
     have hje : j = ln n := by omega
     subst hje; have hck := HK2.out.at_ (i := i + ln n) (by have := HL2.out; omega); have hfz := HK2.out.frozen (i + ln n); have hput := HK2.out.put (i + ln n) c; have hz0 := HZZ2.out (i + ln n) (Nat.le_refl _); have hvs := val_set (ds := es) (i := i + ln n) (by have := HL2.out; omega) c; rw [hz0] at hck hvs; have e3 : ((i : Int) + (ln n : Int)).toNat = i + ln n := by omega
     have hnew : val (es.set (i + ln n) c) = n * val ((dig m).take (i + 1)) := by
      have h1 := HV2.out; have h2 := HV.out; rw [val_take_all (Nat.le_refl _)] at h1; rw [val_take_next, ← HXX.out, Nat.mul_add, ← h2, Nat.mul_left_comm n, Nat.mul_comm n x, ← h1]; omega
     have HN := Hd.mk hnew; have HP := Hd.mk hput; clear hnew hput hvs hz0; go_wp2_with fail
     go_roundw
     case rel =>
      refine ⟨i + 1, es.set (i + ln n) c, by omega, by go_num, by rw [List.length_set]; exact HL2.out, dg_set HDD2.out _ hc, HN.out, ?_, HP.out, below_set HB2.out (Nat.le_refl _) _⟩; intro t ht; rw [getD_set_ne (by omega)]; exact HZZ2.out t (by omega)
     case measure => simp [intOf]; omega
   have hie : i = ln m := by omega
   subst hie
   have hv2 : val ds = m * n := by
    rw [HV.out, val_take_all (Nat.le_refl _)]; try exact Nat.mul_comm _ _
   have hc := norm_calls (some ⟨w.heap.size, 0, none⟩) (ln n + ln m) ds _ HK.out.reads HDD.out (by have := HL.out; omega) (by omega); have hrn := HK.out.reads.of_take HDD.out; rw [HL.out, hv2] at hc; rw [hv2] at hrn; have hfin : ln (m * n) ≤ ln n + ln m := Nat.le_trans (ln_mul m n) (by omega); have HC := Hd.mk hc; have HRN := Hd.mk hrn; clear hv2 hc hrn; go_wp2_with (first | (go_at_call 31; refine HC.out.mono ?_; rintro e w' ⟨rfl, rfl⟩))
   go_ret
   exact ⟨_, _, rfl, ⟨HRN.out, hfin, by omega⟩, HB.out⟩
 have HX := Hd.mk h1; have HY := Hd.mk h2; clear h1 h2; have hgt := Nat.le_of_not_lt (fun h => by omega : ¬ ln m < ln n); have h40 : ln n < 40 := by omega
 have hmk := fun W => make_words 34 Tryd.underlying34 ((ln m : Int) + (ln n : Int)) (ln m + ln n) (by omega) (by omega) W
 go_enter Tryd.func11, Tryd.ntmps11
 go_wp2
 clear hmk; go_loopw [33] (fun s33 wr => ∃ (i : Nat) (ds : List Nat), i ≤ ln n ∧ s33 = .int .i64 i ∧ ds.length = ln m + ln n ∧ Dg ds ∧ val ds = m * val ((dig n).take i) ∧ (∀ t, i + ln m ≤ t → ds.getD t 0 = 0) ∧ Blk wr w.heap.size 37 (cells ds) ∧ Below w.heap.size w wr) (fun s _ => ln n - (intOf s).toNat)
 case atStart => exact ⟨0, List.replicate (ln m + ln n) 0, Nat.zero_le _, rfl, by simp, dg_zeros _, by rw [val_zeros]; simp [val], fun t _ => getD_zeros _ t, heap_alloc_new w _, below_alloc (Below.refl _ _) _⟩
 case round =>
  obtain ⟨i, ds, hi, rfl, hdl, hdd, hval, hzz, hblk, hbel⟩ := hrel; have HV := Hd.mk hval; have HK := Hd.mk hblk; have HL := Hd.mk hdl; have HB := Hd.mk hbel; have HDD := Hd.mk hdd; have HZZ := Hd.mk hzz; clear hval hblk hdl hbel hdd hzz; by_cases hil : i < ln n
  ·obtain ⟨a2, rfl, hcell2⟩ := (HY.out.to HB.out).at_ hil; obtain ⟨x, hx⟩ : ∃ x, x = (dig n).getD i 0 := ⟨_, rfl⟩; have hx1 : x < 4294967296 := by rw [hx]; exact dg_get (dg_dig _) i
   rw [← hx] at hcell2; have HXX := Hd.mk hx; clear hx; obtain ⟨wo, hwo⟩ : ∃ wo : World, wo = wr := ⟨_, rfl⟩; subst hwo; go_wp2_with fail
   go_loopw [8, 40] (fun s8 s40 wr => ∃ (j c : Nat) (es : List Nat), j ≤ ln m ∧ s40 = .int .i64 j ∧ s8 = .int .u64 ((c : Nat) : Int) ∧ c < 4294967296 ∧ es.length = ln m + ln n ∧ Dg es ∧ val es + B ^ (i + j) * c = val ds + B ^ i * (x * val ((dig m).take j)) ∧ (∀ t, i + ln m ≤ t → es.getD t 0 = 0) ∧ Blk wr w.heap.size 37 (cells es) ∧ Below w.heap.size w wr) (fun _ s _ => ln m - (intOf s).toNat)
   case atStart => exact ⟨0, 0, ds, Nat.zero_le _, rfl, rfl, by decide, HL.out, HDD.out, by simp [val], HZZ.out, HK.out, HB.out⟩
   case round =>
    obtain ⟨j, c, es, hj, rfl, rfl, hc, hel, hed, hval, hzz, hblk, hbel⟩ := hrel; have HV2 := Hd.mk hval; have HK2 := Hd.mk hblk; have HL2 := Hd.mk hel; have HB2 := Hd.mk hbel; have HDD2 := Hd.mk hed; have HZZ2 := Hd.mk hzz; clear hval hblk hel hbel hed hzz; by_cases hjl : j < ln m
    ·obtain ⟨a1, rfl, hcell1⟩ := (HX.out.to HB2.out).at_ hjl; obtain ⟨y, hy⟩ : ∃ y, y = (dig m).getD j 0 := ⟨_, rfl⟩; have hy1 : y < 4294967296 := by rw [hy]; exact dg_get (dg_dig _) j
     rw [← hy] at hcell1; have hck := HK2.out.at_ (i := i + j) (by have := HL2.out; omega); have hfz := HK2.out.frozen (i + j); have hstep := mul_step (ds := es) (y := y) (by have := HL2.out; omega) HV2.out; have hput := HK2.out.put (i + j) ((x * y + es.getD (i + j) 0 + c) % 4294967296); have ho : es.getD (i + j) 0 < 4294967296 := dg_get HDD2.out (i + j); obtain ⟨o, ho'⟩ : ∃ o, o = es.getD (i + j) 0 := ⟨_, rfl⟩; rw [← ho'] at hck hstep hput ho; have hfit := mul_fits hx1 hy1 ho hc; obtain ⟨p, hp⟩ : ∃ p, p = x * y := ⟨_, rfl⟩; have hp' : (x : Int) * (y : Int) = (p : Int) := by rw [hp]; exact (Int.natCast_mul x y).symm
     rw [← hp] at hfit hstep hput; obtain ⟨hf1, hf2, hf3⟩ := hfit; have e1 : (((p + o + c) % 4294967296 : Nat) : Int) = ((p : Int) + (o : Int) + (c : Int)) % 4294967296 := by omega
     have e2 : (((p + o + c) / 4294967296 : Nat) : Int) = ((p : Int) + (o : Int) + (c : Int)) / 4294967296 := by omega
     have e3 : ((i : Int) + (j : Int)).toNat = i + j := by omega
     have HS := Hd.mk hstep; have HP := Hd.mk hput; have HYY := Hd.mk hy; have E1 := Hd.mk e1; have E2 := Hd.mk e2; clear hstep hput hy ho' hp e1 e2; have hw64 : (p : Int) + (o : Int) + (c : Int) ≤ 18446744073709551615 := by omega
     go_wp2_with fail
     go_roundw
     case rel =>
      refine ⟨j + 1, (p + o + c) / 4294967296, es.set (i + j) ((p + o + c) % 4294967296), by omega, by go_num, by rw [E2.out], hf3, by rw [List.length_set]; exact HL2.out, dg_set HDD2.out _ (Nat.mod_lt _ (by decide)), ?_, ?_, ?_, below_set HB2.out (Nat.le_refl _) _⟩
      ·rw [val_take_next, ← HYY.out]; exact HS.out
      ·intro t ht; rw [getD_set_ne (by omega)]; exact HZZ2.out t ht
      rw [← E1.out]; exact HP.out
     case measure => simp [intOf]; omega
    have hje : j = ln m := by omega
    subst hje; have hck := HK2.out.at_ (i := i + ln m) (by have := HL2.out; omega); have hfz := HK2.out.frozen (i + ln m); have hput := HK2.out.put (i + ln m) c; have hz0 := HZZ2.out (i + ln m) (Nat.le_refl _); have hvs := val_set (ds := es) (i := i + ln m) (by have := HL2.out; omega) c; rw [hz0] at hck hvs; have e3 : ((i : Int) + (ln m : Int)).toNat = i + ln m := by omega
    have hnew : val (es.set (i + ln m) c) = m * val ((dig n).take (i + 1)) := by
     have h1 := HV2.out; have h2 := HV.out; rw [val_take_all (Nat.le_refl _)] at h1; rw [val_take_next, ← HXX.out, Nat.mul_add, ← h2, Nat.mul_left_comm m, Nat.mul_comm m x, ← h1]; omega
    have HN := Hd.mk hnew; have HP := Hd.mk hput; clear hnew hput hvs hz0; go_wp2_with fail
    go_roundw
    case rel =>
     refine ⟨i + 1, es.set (i + ln m) c, by omega, by go_num, by rw [List.length_set]; exact HL2.out, dg_set HDD2.out _ hc, HN.out, ?_, HP.out, below_set HB2.out (Nat.le_refl _) _⟩; intro t ht; rw [getD_set_ne (by omega)]; exact HZZ2.out t (by omega)
    case measure => simp [intOf]; omega
  have hie : i = ln n := by omega
  subst hie
  have hv2 : val ds = m * n := by
   rw [HV.out, val_take_all (Nat.le_refl _)]; try exact Nat.mul_comm _ _
  have hc := norm_calls (some ⟨w.heap.size, 0, none⟩) (ln m + ln n) ds _ HK.out.reads HDD.out (by have := HL.out; omega) (by omega); have hrn := HK.out.reads.of_take HDD.out; rw [HL.out, hv2] at hc; rw [hv2] at hrn; have hfin : ln (m * n) ≤ ln m + ln n := Nat.le_trans (ln_mul m n) (by omega); have HC := Hd.mk hc; have HRN := Hd.mk hrn; clear hv2 hc hrn; go_wp2_with (first | (go_at_call 31; refine HC.out.mono ?_; rintro e w' ⟨rfl, rfl⟩))
  go_ret
  exact ⟨_, _, rfl, ⟨HRN.out, hfin, by omega⟩, HB.out⟩
set_option maxRecDepth 100000 in
theorem rtimes_calls (A1 : Option Addr) (c1 m : Nat) (A2 : Option Addr) (c2 n : Nat) (w : World) (h1 : NN w A1 c1 m) (h2 : NN w A2 c2 n) (l1 : ln m ≤ 1073741824) (l2 : ln n ≤ 1073741824) :
  Calls Tryd.prog 37 #[.slice A1 (ln m) c1, .slice A2 (ln n) c2] w (RetN (m * n) w) := by
 have HX := Hd.mk h2; have HY := Hd.mk h1; clear h1 h2; have hmk := fun W => make_words 45 Tryd.underlying45 ((ln m : Int) + (ln n : Int)) (ln n + ln m) (by omega) (by omega) W
 go_enter Tryd.func37, Tryd.ntmps37
 go_wp2
 clear hmk; go_loopw [19] (fun s33 wr => ∃ (i : Nat) (ds : List Nat), i ≤ ln m ∧ s33 = .int .i64 i ∧ ds.length = ln n + ln m ∧ Dg ds ∧ val ds = n * val ((dig m).take i) ∧ (∀ t, i + ln n ≤ t → ds.getD t 0 = 0) ∧ Blk wr w.heap.size 37 (cells ds) ∧ Below w.heap.size w wr) (fun s _ => ln m - (intOf s).toNat)
 case atStart => exact ⟨0, List.replicate (ln n + ln m) 0, Nat.zero_le _, rfl, by simp, dg_zeros _, by rw [val_zeros]; simp [val], fun t _ => getD_zeros _ t, heap_alloc_new w _, below_alloc (Below.refl _ _) _⟩
 case round =>
  obtain ⟨i, ds, hi, rfl, hdl, hdd, hval, hzz, hblk, hbel⟩ := hrel; have HV := Hd.mk hval; have HK := Hd.mk hblk; have HL := Hd.mk hdl; have HB := Hd.mk hbel; have HDD := Hd.mk hdd; have HZZ := Hd.mk hzz; clear hval hblk hdl hbel hdd hzz; by_cases hil : i < ln m
  ·obtain ⟨a2, rfl, hcell2⟩ := (HY.out.to HB.out).at_ hil; obtain ⟨x, hx⟩ : ∃ x, x = (dig m).getD i 0 := ⟨_, rfl⟩; have hx1 : x < 4294967296 := by rw [hx]; exact dg_get (dg_dig _) i
   rw [← hx] at hcell2; have HXX := Hd.mk hx; clear hx; obtain ⟨wo, hwo⟩ : ∃ wo : World, wo = wr := ⟨_, rfl⟩; subst hwo; go_wp2_with fail
   go_loopw [8, 26] (fun s8 s40 wr => ∃ (j c : Nat) (es : List Nat), j ≤ ln n ∧ s40 = .int .i64 j ∧ s8 = .int .u64 ((c : Nat) : Int) ∧ c < 4294967296 ∧ es.length = ln n + ln m ∧ Dg es ∧ val es + B ^ (i + j) * c = val ds + B ^ i * (x * val ((dig n).take j)) ∧ (∀ t, i + ln n ≤ t → es.getD t 0 = 0) ∧ Blk wr w.heap.size 37 (cells es) ∧ Below w.heap.size w wr) (fun _ s _ => ln n - (intOf s).toNat)
   case atStart => exact ⟨0, 0, ds, Nat.zero_le _, rfl, rfl, by decide, HL.out, HDD.out, by simp [val], HZZ.out, HK.out, HB.out⟩
   case round =>
    obtain ⟨j, c, es, hj, rfl, rfl, hc, hel, hed, hval, hzz, hblk, hbel⟩ := hrel; have HV2 := Hd.mk hval; have HK2 := Hd.mk hblk; have HL2 := Hd.mk hel; have HB2 := Hd.mk hbel; have HDD2 := Hd.mk hed; have HZZ2 := Hd.mk hzz; clear hval hblk hel hbel hed hzz; by_cases hjl : j < ln n
    ·obtain ⟨a1, rfl, hcell1⟩ := (HX.out.to HB2.out).at_ hjl; obtain ⟨y, hy⟩ : ∃ y, y = (dig n).getD j 0 := ⟨_, rfl⟩; have hy1 : y < 4294967296 := by rw [hy]; exact dg_get (dg_dig _) j
     rw [← hy] at hcell1; have hck := HK2.out.at_ (i := i + j) (by have := HL2.out; omega); have hfz := HK2.out.frozen (i + j); have hstep := mul_step (ds := es) (y := y) (by have := HL2.out; omega) HV2.out; have hput := HK2.out.put (i + j) ((x * y + es.getD (i + j) 0 + c) % 4294967296); have ho : es.getD (i + j) 0 < 4294967296 := dg_get HDD2.out (i + j); obtain ⟨o, ho'⟩ : ∃ o, o = es.getD (i + j) 0 := ⟨_, rfl⟩; rw [← ho'] at hck hstep hput ho; have hfit := mul_fits hx1 hy1 ho hc; obtain ⟨p, hp⟩ : ∃ p, p = x * y := ⟨_, rfl⟩; have hp' : (x : Int) * (y : Int) = (p : Int) := by rw [hp]; exact (Int.natCast_mul x y).symm
     rw [← hp] at hfit hstep hput; obtain ⟨hf1, hf2, hf3⟩ := hfit; have e1 : (((p + o + c) % 4294967296 : Nat) : Int) = ((c : Int) + ((o : Int) + (p : Int))) % 4294967296 := by omega
     have e2 : (((p + o + c) / 4294967296 : Nat) : Int) = ((c : Int) + ((o : Int) + (p : Int))) / 4294967296 := by omega
     have e3 : ((i : Int) + (j : Int)).toNat = i + j := by omega
     have HS := Hd.mk hstep; have HP := Hd.mk hput; have HYY := Hd.mk hy; have E1 := Hd.mk e1; have E2 := Hd.mk e2; clear hstep hput hy ho' hp e1 e2; have hw64 : (c : Int) + ((o : Int) + (p : Int)) ≤ 18446744073709551615 := by omega
     go_wp2_with fail
     go_roundw
     case rel =>
      refine ⟨j + 1, (p + o + c) / 4294967296, es.set (i + j) ((p + o + c) % 4294967296), by omega, by go_num, by rw [E2.out], hf3, by rw [List.length_set]; exact HL2.out, dg_set HDD2.out _ (Nat.mod_lt _ (by decide)), ?_, ?_, ?_, below_set HB2.out (Nat.le_refl _) _⟩
      ·rw [val_take_next, ← HYY.out]; exact HS.out
      ·intro t ht; rw [getD_set_ne (by omega)]; exact HZZ2.out t ht
      rw [← E1.out]; exact HP.out
     case measure => simp [intOf]; omega
    have hje : j = ln n := by omega
    subst hje; have hck := HK2.out.at_ (i := i + ln n) (by have := HL2.out; omega); have hfz := HK2.out.frozen (i + ln n); have hput := HK2.out.put (i + ln n) c; have hz0 := HZZ2.out (i + ln n) (Nat.le_refl _); have hvs := val_set (ds := es) (i := i + ln n) (by have := HL2.out; omega) c; rw [hz0] at hck hvs; have e3 : ((i : Int) + (ln n : Int)).toNat = i + ln n := by omega
    have hnew : val (es.set (i + ln n) c) = n * val ((dig m).take (i + 1)) := by
     have h1 := HV2.out; have h2 := HV.out; rw [val_take_all (Nat.le_refl _)] at h1; rw [val_take_next, ← HXX.out, Nat.mul_add, ← h2, Nat.mul_left_comm n, Nat.mul_comm n x, ← h1]; omega
    have HN := Hd.mk hnew; have HP := Hd.mk hput; clear hnew hput hvs hz0; go_wp2_with fail
    go_roundw
    case rel =>
     refine ⟨i + 1, es.set (i + ln n) c, by omega, by go_num, by rw [List.length_set]; exact HL2.out, dg_set HDD2.out _ hc, HN.out, ?_, HP.out, below_set HB2.out (Nat.le_refl _) _⟩; intro t ht; rw [getD_set_ne (by omega)]; exact HZZ2.out t (by omega)
    case measure => simp [intOf]; omega
  have hie : i = ln m := by omega
  subst hie
  have hv2 : val ds = m * n := by
   rw [HV.out, val_take_all (Nat.le_refl _)]; try exact Nat.mul_comm _ _
  have hc := trim_calls (some ⟨w.heap.size, 0, none⟩) (ln n + ln m) ds _ HK.out.reads HDD.out (by have := HL.out; omega) (by omega); have hrn := HK.out.reads.of_take HDD.out; rw [HL.out, hv2] at hc; rw [hv2] at hrn; have hfin : ln (m * n) ≤ ln n + ln m := Nat.le_trans (ln_mul m n) (by omega); have HC := Hd.mk hc; have HRN := Hd.mk hrn; clear hv2 hc hrn; go_wp2_with (first | (go_at_call 36; refine HC.out.mono ?_; rintro e w' ⟨rfl, rfl⟩))
  go_ret
  exact ⟨_, _, rfl, ⟨HRN.out, hfin, by omega⟩, HB.out⟩
end Go.Proofs.YtdfhhceboacdcaaDoor
