/- Part 3 of the texts behind this claim. -/
import Derived.Test.YtdfhhceboacdcaaGreatDoorGk2
set_option linter.unusedVariables false
namespace Go.Proofs.YtdfhhceboacdcaaGreatDoor
open Go.RowKit
set_option maxRecDepth 100000 in
theorem mul_school (A1 : Option Addr) (c1 m : Nat) (A2 : Option Addr) (c2 n : Nat) (w : World) (h1 : NN w A1 c1 m) (h2 : NN w A2 c2 n) (l1 : ln m ≤ 1073741824) (l2 : ln n ≤ 1073741824) (hs : ln m < 40 ∨ ln n < 40) :
  Calls Tryz.prog 45 #[.slice A1 (ln m) c1, .slice A2 (ln n) c2] w (RetN (m * n) w) := by
 by_cases hlt : ln m < ln n
 ·have HX := Hd.mk h2; have HY := Hd.mk h1; clear h1 h2; have hgt := Nat.le_of_not_lt (fun h => by omega : ¬ ln n < ln m); have h40 : ln m < 40 := by omega
  have hmk := fun W => make_words 49 Tryz.underlying49 ((ln n : Int) + (ln m : Int)) (ln n + ln m) (by omega) (by omega) W
  go_enter Tryz.func45, Tryz.ntmps45
  go_wp2
  clear hmk; go_loopw [33] (fun s33 wr => ∃ (i : Nat) (ds : List Nat), i ≤ ln m ∧ s33 = .int .i64 i ∧ ds.length = ln n + ln m ∧ Dg ds ∧ val ds = n * val ((dig m).take i) ∧ (∀ t, i + ln n ≤ t → ds.getD t 0 = 0) ∧ Blk wr w.heap.size 46 (cells ds) ∧ Below w.heap.size w wr) (fun s _ => ln m - (intOf s).toNat)
  case atStart => exact ⟨0, List.replicate (ln n + ln m) 0, Nat.zero_le _, rfl, by simp, dg_zeros _, by rw [val_zeros]; simp [val], fun t _ => getD_zeros _ t, heap_alloc_new w _, below_alloc (Below.refl _ _) _⟩
  case round =>
   obtain ⟨i, ds, hi, rfl, hdl, hdd, hval, hzz, hblk, hbel⟩ := hrel; have HV := Hd.mk hval; have HK := Hd.mk hblk; have HL := Hd.mk hdl; have HB := Hd.mk hbel; have HDD := Hd.mk hdd; have HZZ := Hd.mk hzz; clear hval hblk hdl hbel hdd hzz; by_cases hil : i < ln m
   ·obtain ⟨a2, rfl, hcell2⟩ := (HY.out.to HB.out).at_ hil; obtain ⟨x, hx⟩ : ∃ x, x = (dig m).getD i 0 := ⟨_, rfl⟩; have hx1 : x < 4294967296 := by rw [hx]; exact dg_get (dg_dig _) i
    rw [← hx] at hcell2; have HXX := Hd.mk hx; clear hx; obtain ⟨wo, hwo⟩ : ∃ wo : World, wo = wr := ⟨_, rfl⟩; subst hwo; go_wp2_with fail
    go_loopw [8, 40] (fun s8 s40 wr => ∃ (j c : Nat) (es : List Nat), j ≤ ln n ∧ s40 = .int .i64 j ∧ s8 = .int .u64 ((c : Nat) : Int) ∧ c < 4294967296 ∧ es.length = ln n + ln m ∧ Dg es ∧ val es + B ^ (i + j) * c = val ds + B ^ i * (x * val ((dig n).take j)) ∧ (∀ t, i + ln n ≤ t → es.getD t 0 = 0) ∧ Blk wr w.heap.size 46 (cells es) ∧ Below w.heap.size w wr) (fun _ s _ => ln n - (intOf s).toNat)
    case atStart => exact ⟨0, 0, ds, Nat.zero_le _, rfl, rfl, by decide, HL.out, HDD.out, by simp [val], HZZ.out, HK.out, HB.out⟩
    case round =>
     obtain ⟨j, c, es, hj, rfl, rfl, hc, hel, hed, hval, hzz, hblk, hbel⟩ := hrel; have HV2 := Hd.mk hval; have HK2 := Hd.mk hblk; have HL2 := Hd.mk hel; have HB2 := Hd.mk hbel; have HDD2 := Hd.mk hed; have HZZ2 := Hd.mk hzz; clear hval hblk hel hbel hed hzz; by_cases hjl : j < ln n
     ·obtain ⟨a1, rfl, hcell1⟩ := (HX.out.to HB2.out).at_ hjl; obtain ⟨y, hy⟩ : ∃ y, y = (dig n).getD j 0 := ⟨_, rfl⟩; have hy1 : y < 4294967296 := by rw [hy]; exact dg_get (dg_dig _) j
      rw [← hy] at hcell1; have hck := HK2.out.at_ (i := i + j) (by have := HL2.out; omega); have hfz := HK2.out.frozen (i + j); have hstep := mul_step (ds := es) (y := y) (by have := HL2.out; omega) HV2.out; have hput := HK2.out.put (i + j) ((x * y + es.getD (i + j) 0 + c) % 4294967296); have ho : es.getD (i + j) 0 < 4294967296 := dg_get HDD2.out (i + j); obtain ⟨o, ho'⟩ : ∃ o, o = es.getD (i + j) 0 := ⟨_, rfl⟩; rw [← ho'] at hck hstep hput ho; have hfit := mul_fits hx1 hy1 ho hc; obtain ⟨p, hp⟩ : ∃ p, p = x * y := ⟨_, rfl⟩; have hp' : (x : Int) * (y : Int) = (p : Int) := by rw [hp]; exact (Int.natCast_mul x y).symm
      rw [← hp] at hfit hstep hput; obtain ⟨hf1, hf2, hf3⟩ := hfit; have e1 : (((p + o + c) % 4294967296 : Nat) : Int) = ((p : Int) + (o : Int) + (c : Int)) % 4294967296 := by omega
      have e2 : (((p + o + c) / 4294967296 : Nat) : Int) = ((p : Int) + (o : Int) + (c : Int)) / 4294967296 := by omega
      have e3 : ((i : Int) + (j : Int)).toNat = i + j := by omega
      have HS := Hd.mk hstep; have HP := Hd.mk hput; have HYY := Hd.mk hy; have E1 := Hd.mk e1; have E2 := Hd.mk e2; clear hstep hput hy ho' hp e1 e2; have hw64 : (p : Int) + (o : Int) + (c : Int) ≤ 18446744073709551615 := by omega
      go_wp2_with fail
      go_roundw
      case rel =>
       refine ⟨j + 1, (p + o + c) / 4294967296, es.set (i + j) ((p + o + c) % 4294967296), by omega, by go_num, by rw [E2.out], hf3, by rw [List.length_set]; exact HL2.out, dg_set HDD2.out _ (Nat.mod_lt _ (by decide)), ?_, ?_, ?_, below_set HB2.out (Nat.le_refl _) _⟩
       ·rw [val_take_next, ← HYY.out]; exact HS.out
       ·intro t ht; rw [getD_set_ne (by omega)]; exact HZZ2.out t ht
       rw [← E1.out]; exact HP.out
      case measure => simp [intOf]; omega
     have hje : j = ln n := by omega
     subst hje; have hck := HK2.out.at_ (i := i + ln n) (by have := HL2.out; omega); have hfz := HK2.out.frozen (i + ln n); have hput := HK2.out.put (i + ln n) c; have hz0 := HZZ2.out (i + ln n) (Nat.le_refl _); have hvs := val_set (ds := es) (i := i + ln n) (by have := HL2.out; omega) c; rw [hz0] at hck hvs; have e3 : ((i : Int) + (ln n : Int)).toNat = i + ln n := by omega
     have hnew : val (es.set (i + ln n) c) = n * val ((dig m).take (i + 1)) := by
      have h1 := HV2.out; have h2 := HV.out; rw [val_take_all (Nat.le_refl _)] at h1; rw [val_take_next, ← HXX.out, Nat.mul_add, ← h2, Nat.mul_left_comm n, Nat.mul_comm n x, ← h1]; omega
     have HN := Hd.mk hnew; have HP := Hd.mk hput; clear hnew hput hvs hz0; go_wp2_with fail
     go_roundw
     case rel =>
      refine ⟨i + 1, es.set (i + ln n) c, by omega, by go_num, by rw [List.length_set]; exact HL2.out, dg_set HDD2.out _ hc, HN.out, ?_, HP.out, below_set HB2.out (Nat.le_refl _) _⟩; intro t ht; rw [getD_set_ne (by omega)]; exact HZZ2.out t (by omega)
     case measure => simp [intOf]; omega
   have hie : i = ln m := by omega
   subst hie
   have hv2 : val ds = m * n := by
    rw [HV.out, val_take_all (Nat.le_refl _)]; try exact Nat.mul_comm _ _
   have hc := norm_calls (some ⟨w.heap.size, 0, none⟩) (ln n + ln m) ds _ HK.out.reads HDD.out (by have := HL.out; omega) (by omega); have hrn := HK.out.reads.of_take HDD.out; rw [HL.out, hv2] at hc; rw [hv2] at hrn; have hfin : ln (m * n) ≤ ln n + ln m := Nat.le_trans (ln_mul m n) (by omega); have HC := Hd.mk hc; have HRN := Hd.mk hrn; clear hv2 hc hrn; go_wp2_with (first | (go_at_call 78; refine HC.out.mono ?_; rintro e w' ⟨rfl, rfl⟩))
   go_ret
   exact ⟨_, _, rfl, ⟨HRN.out, hfin, by omega⟩, HB.out⟩
 have HX := Hd.mk h1; have HY := Hd.mk h2; clear h1 h2; have hgt := Nat.le_of_not_lt (fun h => by omega : ¬ ln m < ln n); have h40 : ln n < 40 := by omega
 have hmk := fun W => make_words 49 Tryz.underlying49 ((ln m : Int) + (ln n : Int)) (ln m + ln n) (by omega) (by omega) W
 go_enter Tryz.func45, Tryz.ntmps45
 go_wp2
 clear hmk; go_loopw [33] (fun s33 wr => ∃ (i : Nat) (ds : List Nat), i ≤ ln n ∧ s33 = .int .i64 i ∧ ds.length = ln m + ln n ∧ Dg ds ∧ val ds = m * val ((dig n).take i) ∧ (∀ t, i + ln m ≤ t → ds.getD t 0 = 0) ∧ Blk wr w.heap.size 46 (cells ds) ∧ Below w.heap.size w wr) (fun s _ => ln n - (intOf s).toNat)
 case atStart => exact ⟨0, List.replicate (ln m + ln n) 0, Nat.zero_le _, rfl, by simp, dg_zeros _, by rw [val_zeros]; simp [val], fun t _ => getD_zeros _ t, heap_alloc_new w _, below_alloc (Below.refl _ _) _⟩
 case round =>
  obtain ⟨i, ds, hi, rfl, hdl, hdd, hval, hzz, hblk, hbel⟩ := hrel; have HV := Hd.mk hval; have HK := Hd.mk hblk; have HL := Hd.mk hdl; have HB := Hd.mk hbel; have HDD := Hd.mk hdd; have HZZ := Hd.mk hzz; clear hval hblk hdl hbel hdd hzz; by_cases hil : i < ln n
  ·obtain ⟨a2, rfl, hcell2⟩ := (HY.out.to HB.out).at_ hil; obtain ⟨x, hx⟩ : ∃ x, x = (dig n).getD i 0 := ⟨_, rfl⟩; have hx1 : x < 4294967296 := by rw [hx]; exact dg_get (dg_dig _) i
   rw [← hx] at hcell2; have HXX := Hd.mk hx; clear hx; obtain ⟨wo, hwo⟩ : ∃ wo : World, wo = wr := ⟨_, rfl⟩; subst hwo; go_wp2_with fail
   go_loopw [8, 40] (fun s8 s40 wr => ∃ (j c : Nat) (es : List Nat), j ≤ ln m ∧ s40 = .int .i64 j ∧ s8 = .int .u64 ((c : Nat) : Int) ∧ c < 4294967296 ∧ es.length = ln m + ln n ∧ Dg es ∧ val es + B ^ (i + j) * c = val ds + B ^ i * (x * val ((dig m).take j)) ∧ (∀ t, i + ln m ≤ t → es.getD t 0 = 0) ∧ Blk wr w.heap.size 46 (cells es) ∧ Below w.heap.size w wr) (fun _ s _ => ln m - (intOf s).toNat)
   case atStart => exact ⟨0, 0, ds, Nat.zero_le _, rfl, rfl, by decide, HL.out, HDD.out, by simp [val], HZZ.out, HK.out, HB.out⟩
   case round =>
    obtain ⟨j, c, es, hj, rfl, rfl, hc, hel, hed, hval, hzz, hblk, hbel⟩ := hrel; have HV2 := Hd.mk hval; have HK2 := Hd.mk hblk; have HL2 := Hd.mk hel; have HB2 := Hd.mk hbel; have HDD2 := Hd.mk hed; have HZZ2 := Hd.mk hzz; clear hval hblk hel hbel hed hzz; by_cases hjl : j < ln m
    ·obtain ⟨a1, rfl, hcell1⟩ := (HX.out.to HB2.out).at_ hjl; obtain ⟨y, hy⟩ : ∃ y, y = (dig m).getD j 0 := ⟨_, rfl⟩; have hy1 : y < 4294967296 := by rw [hy]; exact dg_get (dg_dig _) j
     rw [← hy] at hcell1; have hck := HK2.out.at_ (i := i + j) (by have := HL2.out; omega); have hfz := HK2.out.frozen (i + j); have hstep := mul_step (ds := es) (y := y) (by have := HL2.out; omega) HV2.out; have hput := HK2.out.put (i + j) ((x * y + es.getD (i + j) 0 + c) % 4294967296); have ho : es.getD (i + j) 0 < 4294967296 := dg_get HDD2.out (i + j); obtain ⟨o, ho'⟩ : ∃ o, o = es.getD (i + j) 0 := ⟨_, rfl⟩; rw [← ho'] at hck hstep hput ho; have hfit := mul_fits hx1 hy1 ho hc; obtain ⟨p, hp⟩ : ∃ p, p = x * y := ⟨_, rfl⟩; have hp' : (x : Int) * (y : Int) = (p : Int) := by rw [hp]; exact (Int.natCast_mul x y).symm
     rw [← hp] at hfit hstep hput; obtain ⟨hf1, hf2, hf3⟩ := hfit; have e1 : (((p + o + c) % 4294967296 : Nat) : Int) = ((p : Int) + (o : Int) + (c : Int)) % 4294967296 := by omega
     have e2 : (((p + o + c) / 4294967296 : Nat) : Int) = ((p : Int) + (o : Int) + (c : Int)) / 4294967296 := by omega
     have e3 : ((i : Int) + (j : Int)).toNat = i + j := by omega
     have HS := Hd.mk hstep; have HP := Hd.mk hput; have HYY := Hd.mk hy; have E1 := Hd.mk e1; have E2 := Hd.mk e2; clear hstep hput hy ho' hp e1 e2; have hw64 : (p : Int) + (o : Int) + (c : Int) ≤ 18446744073709551615 := by omega
     go_wp2_with fail
     go_roundw
     case rel =>
      refine ⟨j + 1, (p + o + c) / 4294967296, es.set (i + j) ((p + o + c) % 4294967296), by omega, by go_num, by rw [E2.out], hf3, by rw [List.length_set]; exact HL2.out, dg_set HDD2.out _ (Nat.mod_lt _ (by decide)), ?_, ?_, ?_, below_set HB2.out (Nat.le_refl _) _⟩
      ·rw [val_take_next, ← HYY.out]; exact HS.out
      ·intro t ht; rw [getD_set_ne (by omega)]; exact HZZ2.out t ht
      rw [← E1.out]; exact HP.out
     case measure => simp [intOf]; omega
    have hje : j = ln m := by omega
    subst hje; have hck := HK2.out.at_ (i := i + ln m) (by have := HL2.out; omega); have hfz := HK2.out.frozen (i + ln m); have hput := HK2.out.put (i + ln m) c; have hz0 := HZZ2.out (i + ln m) (Nat.le_refl _); have hvs := val_set (ds := es) (i := i + ln m) (by have := HL2.out; omega) c; rw [hz0] at hck hvs; have e3 : ((i : Int) + (ln m : Int)).toNat = i + ln m := by omega
    have hnew : val (es.set (i + ln m) c) = m * val ((dig n).take (i + 1)) := by
     have h1 := HV2.out; have h2 := HV.out; rw [val_take_all (Nat.le_refl _)] at h1; rw [val_take_next, ← HXX.out, Nat.mul_add, ← h2, Nat.mul_left_comm m, Nat.mul_comm m x, ← h1]; omega
    have HN := Hd.mk hnew; have HP := Hd.mk hput; clear hnew hput hvs hz0; go_wp2_with fail
    go_roundw
    case rel =>
     refine ⟨i + 1, es.set (i + ln m) c, by omega, by go_num, by rw [List.length_set]; exact HL2.out, dg_set HDD2.out _ hc, HN.out, ?_, HP.out, below_set HB2.out (Nat.le_refl _) _⟩; intro t ht; rw [getD_set_ne (by omega)]; exact HZZ2.out t (by omega)
    case measure => simp [intOf]; omega
  have hie : i = ln n := by omega
  subst hie
  have hv2 : val ds = m * n := by
   rw [HV.out, val_take_all (Nat.le_refl _)]; try exact Nat.mul_comm _ _
  have hc := norm_calls (some ⟨w.heap.size, 0, none⟩) (ln m + ln n) ds _ HK.out.reads HDD.out (by have := HL.out; omega) (by omega); have hrn := HK.out.reads.of_take HDD.out; rw [HL.out, hv2] at hc; rw [hv2] at hrn; have hfin : ln (m * n) ≤ ln m + ln n := Nat.le_trans (ln_mul m n) (by omega); have HC := Hd.mk hc; have HRN := Hd.mk hrn; clear hv2 hc hrn; go_wp2_with (first | (go_at_call 78; refine HC.out.mono ?_; rintro e w' ⟨rfl, rfl⟩))
  go_ret
  exact ⟨_, _, rfl, ⟨HRN.out, hfin, by omega⟩, HB.out⟩
set_option maxRecDepth 100000 in
theorem rtimes_calls (A1 : Option Addr) (c1 m : Nat) (A2 : Option Addr) (c2 n : Nat) (w : World) (h1 : NN w A1 c1 m) (h2 : NN w A2 c2 n) (l1 : ln m ≤ 1073741824) (l2 : ln n ≤ 1073741824) :
  Calls Tryz.prog 82 #[.slice A1 (ln m) c1, .slice A2 (ln n) c2] w (RetN (m * n) w) := by
 have HX := Hd.mk h2; have HY := Hd.mk h1; clear h1 h2; have hmk := fun W => make_words 59 Tryz.underlying59 ((ln m : Int) + (ln n : Int)) (ln n + ln m) (by omega) (by omega) W
 go_enter Tryz.func82, Tryz.ntmps82
 go_wp2
 clear hmk; go_loopw [19] (fun s33 wr => ∃ (i : Nat) (ds : List Nat), i ≤ ln m ∧ s33 = .int .i64 i ∧ ds.length = ln n + ln m ∧ Dg ds ∧ val ds = n * val ((dig m).take i) ∧ (∀ t, i + ln n ≤ t → ds.getD t 0 = 0) ∧ Blk wr w.heap.size 46 (cells ds) ∧ Below w.heap.size w wr) (fun s _ => ln m - (intOf s).toNat)
 case atStart => exact ⟨0, List.replicate (ln n + ln m) 0, Nat.zero_le _, rfl, by simp, dg_zeros _, by rw [val_zeros]; simp [val], fun t _ => getD_zeros _ t, heap_alloc_new w _, below_alloc (Below.refl _ _) _⟩
 case round =>
  obtain ⟨i, ds, hi, rfl, hdl, hdd, hval, hzz, hblk, hbel⟩ := hrel; have HV := Hd.mk hval; have HK := Hd.mk hblk; have HL := Hd.mk hdl; have HB := Hd.mk hbel; have HDD := Hd.mk hdd; have HZZ := Hd.mk hzz; clear hval hblk hdl hbel hdd hzz; by_cases hil : i < ln m
  ·obtain ⟨a2, rfl, hcell2⟩ := (HY.out.to HB.out).at_ hil; obtain ⟨x, hx⟩ : ∃ x, x = (dig m).getD i 0 := ⟨_, rfl⟩; have hx1 : x < 4294967296 := by rw [hx]; exact dg_get (dg_dig _) i
   rw [← hx] at hcell2; have HXX := Hd.mk hx; clear hx; obtain ⟨wo, hwo⟩ : ∃ wo : World, wo = wr := ⟨_, rfl⟩; subst hwo; go_wp2_with fail
   go_loopw [8, 26] (fun s8 s40 wr => ∃ (j c : Nat) (es : List Nat), j ≤ ln n ∧ s40 = .int .i64 j ∧ s8 = .int .u64 ((c : Nat) : Int) ∧ c < 4294967296 ∧ es.length = ln n + ln m ∧ Dg es ∧ val es + B ^ (i + j) * c = val ds + B ^ i * (x * val ((dig n).take j)) ∧ (∀ t, i + ln n ≤ t → es.getD t 0 = 0) ∧ Blk wr w.heap.size 46 (cells es) ∧ Below w.heap.size w wr) (fun _ s _ => ln n - (intOf s).toNat)
   case atStart => exact ⟨0, 0, ds, Nat.zero_le _, rfl, rfl, by decide, HL.out, HDD.out, by simp [val], HZZ.out, HK.out, HB.out⟩
   case round =>
    obtain ⟨j, c, es, hj, rfl, rfl, hc, hel, hed, hval, hzz, hblk, hbel⟩ := hrel; have HV2 := Hd.mk hval; have HK2 := Hd.mk hblk; have HL2 := Hd.mk hel; have HB2 := Hd.mk hbel; have HDD2 := Hd.mk hed; have HZZ2 := Hd.mk hzz; clear hval hblk hel hbel hed hzz; by_cases hjl : j < ln n
    ·obtain ⟨a1, rfl, hcell1⟩ := (HX.out.to HB2.out).at_ hjl; obtain ⟨y, hy⟩ : ∃ y, y = (dig n).getD j 0 := ⟨_, rfl⟩; have hy1 : y < 4294967296 := by rw [hy]; exact dg_get (dg_dig _) j
     rw [← hy] at hcell1; have hck := HK2.out.at_ (i := i + j) (by have := HL2.out; omega); have hfz := HK2.out.frozen (i + j); have hstep := mul_step (ds := es) (y := y) (by have := HL2.out; omega) HV2.out; have hput := HK2.out.put (i + j) ((x * y + es.getD (i + j) 0 + c) % 4294967296); have ho : es.getD (i + j) 0 < 4294967296 := dg_get HDD2.out (i + j); obtain ⟨o, ho'⟩ : ∃ o, o = es.getD (i + j) 0 := ⟨_, rfl⟩; rw [← ho'] at hck hstep hput ho; have hfit := mul_fits hx1 hy1 ho hc; obtain ⟨p, hp⟩ : ∃ p, p = x * y := ⟨_, rfl⟩; have hp' : (x : Int) * (y : Int) = (p : Int) := by rw [hp]; exact (Int.natCast_mul x y).symm
     rw [← hp] at hfit hstep hput; obtain ⟨hf1, hf2, hf3⟩ := hfit; have e1 : (((p + o + c) % 4294967296 : Nat) : Int) = ((c : Int) + ((o : Int) + (p : Int))) % 4294967296 := by omega
     have e2 : (((p + o + c) / 4294967296 : Nat) : Int) = ((c : Int) + ((o : Int) + (p : Int))) / 4294967296 := by omega
     have e3 : ((i : Int) + (j : Int)).toNat = i + j := by omega
     have HS := Hd.mk hstep; have HP := Hd.mk hput; have HYY := Hd.mk hy; have E1 := Hd.mk e1; have E2 := Hd.mk e2; clear hstep hput hy ho' hp e1 e2; have hw64 : (c : Int) + ((o : Int) + (p : Int)) ≤ 18446744073709551615 := by omega
     go_wp2_with fail
     go_roundw
     case rel =>
      refine ⟨j + 1, (p + o + c) / 4294967296, es.set (i + j) ((p + o + c) % 4294967296), by omega, by go_num, by rw [E2.out], hf3, by rw [List.length_set]; exact HL2.out, dg_set HDD2.out _ (Nat.mod_lt _ (by decide)), ?_, ?_, ?_, below_set HB2.out (Nat.le_refl _) _⟩
      ·rw [val_take_next, ← HYY.out]; exact HS.out
      ·intro t ht; rw [getD_set_ne (by omega)]; exact HZZ2.out t ht
      rw [← E1.out]; exact HP.out
     case measure => simp [intOf]; omega
    have hje : j = ln n := by omega
    subst hje; have hck := HK2.out.at_ (i := i + ln n) (by have := HL2.out; omega); have hfz := HK2.out.frozen (i + ln n); have hput := HK2.out.put (i + ln n) c; have hz0 := HZZ2.out (i + ln n) (Nat.le_refl _); have hvs := val_set (ds := es) (i := i + ln n) (by have := HL2.out; omega) c; rw [hz0] at hck hvs; have e3 : ((i : Int) + (ln n : Int)).toNat = i + ln n := by omega
    have hnew : val (es.set (i + ln n) c) = n * val ((dig m).take (i + 1)) := by
     have h1 := HV2.out; have h2 := HV.out; rw [val_take_all (Nat.le_refl _)] at h1; rw [val_take_next, ← HXX.out, Nat.mul_add, ← h2, Nat.mul_left_comm n, Nat.mul_comm n x, ← h1]; omega
    have HN := Hd.mk hnew; have HP := Hd.mk hput; clear hnew hput hvs hz0; go_wp2_with fail
    go_roundw
    case rel =>
     refine ⟨i + 1, es.set (i + ln n) c, by omega, by go_num, by rw [List.length_set]; exact HL2.out, dg_set HDD2.out _ hc, HN.out, ?_, HP.out, below_set HB2.out (Nat.le_refl _) _⟩; intro t ht; rw [getD_set_ne (by omega)]; exact HZZ2.out t (by omega)
    case measure => simp [intOf]; omega
  have hie : i = ln m := by omega
  subst hie
  have hv2 : val ds = m * n := by
   rw [HV.out, val_take_all (Nat.le_refl _)]; try exact Nat.mul_comm _ _
  have hc := trim_calls (some ⟨w.heap.size, 0, none⟩) (ln n + ln m) ds _ HK.out.reads HDD.out (by have := HL.out; omega) (by omega); have hrn := HK.out.reads.of_take HDD.out; rw [HL.out, hv2] at hc; rw [hv2] at hrn; have hfin : ln (m * n) ≤ ln n + ln m := Nat.le_trans (ln_mul m n) (by omega); have HC := Hd.mk hc; have HRN := Hd.mk hrn; clear hv2 hc hrn; go_wp2_with (first | (go_at_call 81; refine HC.out.mono ?_; rintro e w' ⟨rfl, rfl⟩))
  go_ret
  exact ⟨_, _, rfl, ⟨HRN.out, hfin, by omega⟩, HB.out⟩
end Go.Proofs.YtdfhhceboacdcaaGreatDoor
