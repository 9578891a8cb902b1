/- Part 9 of the texts behind this claim. -/
import Derived.Test.YtcjcpfafalkceaaFq2
import Derived.Test.YtcjcpfafalkceaaFq3
import Derived.Test.YtcjcpfafalkceaaFq6
import Derived.Test.YtcjcpfafalkceaaFq8
set_option linter.unusedVariables false
namespace Go.Proofs.Ytcjcpfafalkceaa
open Go.RowKit
theorem sub64_low1 (x c : Nat) (d : Nat) (h : (d : Int) = ((x : Int) - c) % 4294967296) : IntKind.u64.wrap ((x : Int) - c) % 4294967296 = (d : Int) := by
  rw [IntKind.wrap_u64]; omega
theorem sub64_low2 (x c y : Nat) (d : Nat) (h : (d : Int) = ((x : Int) - c - y) % 4294967296) : IntKind.u64.wrap (IntKind.u64.wrap ((x : Int) - c) - y) % 4294967296 = (d : Int) := by
  rw [IntKind.wrap_u64, IntKind.wrap_u64]; omega
theorem sub64_high1 (x c : Nat) (hx : x < 4294967296) (hc : c ≤ 1) (b : Nat) (h : b = if x < c then 1 else 0) : IntKind.u64.wrap ((x : Int) - c) / 9223372036854775808 = (b : Int) := by
  rw [IntKind.wrap_u64, h]; split <;> omega
theorem sub64_high2 (x y c : Nat) (hx : x < 4294967296) (hy : y < 4294967296) (hc : c ≤ 1) (b : Nat) (h : b = if x < y + c then 1 else 0) : IntKind.u64.wrap (IntKind.u64.wrap ((x : Int) - c) - y) / 9223372036854775808 = (b : Int) := by
  rw [IntKind.wrap_u64, IntKind.wrap_u64, h]; split <;> omega
set_option maxRecDepth 100000 in
theorem rless_calls (A1 : Option Addr) (c1 m : Nat) (A2 : Option Addr) (c2 n : Nat) (w : World) (h1 : NN w A1 c1 m) (h2 : NN w A2 c2 n) (hnm : n ≤ m) (l1 : ln m ≤ 1073741824) :
    Calls Try.prog 84 #[.slice A1 (ln m) c1, .slice A2 (ln n) c2] w (RetN (m - n) w) := by
  have HX := Hd.mk h1
  have HY := Hd.mk h2
  clear h1 h2
  have hgt := ln_mono hnm
  have hmk := fun W => make_words 36 Try.underlying36 (ln m : Int) (ln m) (by omega) (by omega) W
  go_enter Try.func84, Try.ntmps84
  go_wp2
  clear hmk
  go_loopw [6, 14] (fun s6 s22 wr => ∃ (k cy : Nat) (ds : List Nat), k ≤ ln m ∧ s22 = .int .i64 k ∧ s6 = .int .u64 ((cy : Nat) : Int) ∧ cy ≤ 1 ∧ ds.length = k ∧ Dg ds ∧ val ds + val ((dig n).take k) = val ((dig m).take k) + B ^ k * cy ∧ Blk wr w.heap.size 72 (cells (ds ++ List.replicate (ln m - k) 0)) ∧ Below w.heap.size w wr) (fun _ s22 _ => ln m - (intOf s22).toNat)
  case atStart => exact ⟨0, 0, [], Nat.zero_le _, rfl, rfl, Nat.zero_le _, rfl, (fun x hx => by cases hx), by simp [val], heap_alloc_new w _, below_alloc (Below.refl _ _) _⟩
  case round =>
    obtain ⟨k, cy, ds, hk, rfl, rfl, hcy, hdl, hdd, hval, hblk, hbel⟩ := hrel
    have HV := Hd.mk hval
    have HK := Hd.mk hblk
    have HL := Hd.mk hdl
    have HB := Hd.mk hbel
    have HDD := Hd.mk hdd
    have hfz := hblk.frozen k
    have hck : k < ln m → _ := fun hh => hblk.at_ (i := k) (by simp; omega)
    clear hval hblk hdl hbel hdd
    by_cases hkl : k < ln m
    · have hck := hck hkl
      obtain ⟨a1, rfl, hcell1⟩ := (HX.out.to HB.out).at_ hkl
      obtain ⟨dx, hdx⟩ : ∃ dx, dx = (dig m).getD k 0 := ⟨_, rfl⟩
      have hdx1 : dx < 4294967296 := by rw [hdx]; exact dg_get (dg_dig _) k
      obtain ⟨dy, hdy⟩ : ∃ dy, dy = (dig n).getD k 0 := ⟨_, rfl⟩
      have hdy1 : dy < 4294967296 := by rw [hdy]; exact dg_get (dg_dig _) k
      rw [← hdx] at hcell1
      have hz := get_zero ds (ln m - k) k (by have := HL.out; omega)
      rw [hz] at hck
      have hrel' : val (ds ++ [(4294967296 + dx - dy - cy) % 4294967296]) + val ((dig n).take (k + 1)) = val ((dig m).take (k + 1)) + B ^ (k + 1) * (if dx < dy + cy then 1 else 0) := by
        rw [val_take_next, val_take_next, ← hdx, ← hdy]
        exact sub_step HL.out hdx1 hdy1 hcy HV.out
      have hput : Blk (wr.setCell ⟨w.heap.size, k, none⟩ (.int .u32 (((4294967296 + dx - dy - cy) % 4294967296 : Nat) : Int))) w.heap.size 72 (cells ((ds ++ [(4294967296 + dx - dy - cy) % 4294967296]) ++ List.replicate (ln m - (k + 1)) 0)) := by
        have := HK.out.put k ((4294967296 + dx - dy - cy) % 4294967296)
        rw [← HL.out, set_next ds _ _ (by have := HL.out; omega)] at this
        rw [← HL.out]
        exact this
      have hb1 : (if dx < dy + cy then 1 else 0 : Nat) ≤ 1 := by split <;> omega
      obtain ⟨bw, hbw⟩ : ∃ bw : Nat, bw = (if dx < dy + cy then 1 else 0 : Nat) := ⟨_, rfl⟩
      obtain ⟨dd, hddq⟩ : ∃ dd : Nat, dd = (4294967296 + dx - dy - cy) % 4294967296 := ⟨_, rfl⟩
      have hddl : dd < B := by rw [hddq]; exact Nat.mod_lt _ (by decide)
      rw [← hbw, ← hddq] at hrel'
      rw [← hddq] at hput
      rw [← hbw] at hb1
      have hhi := sub64_high2 dx dy cy hdx1 hdy1 hcy bw hbw
      have hlo := sub64_low2 dx cy dy dd (by omega)
      have hhi1 := fun h0 : dy = 0 => sub64_high1 dx cy hdx1 hcy bw (by rw [hbw, h0]; simp)
      have hlo1 := fun h0 : dy = 0 => sub64_low1 dx cy dd (by omega)
      have HR := Hd.mk hrel'
      have HP := Hd.mk hput
      have HDY := Hd.mk hdy
      clear hrel' hput hz hdx hbw hddq
      by_cases hkq : k < ln n
      · obtain ⟨a2, rfl, hcell2⟩ := (HY.out.to HB.out).at_ hkq
        rw [← hdy] at hcell2
        clear hdy
        clear hhi1 hlo1
        go_wp2_with fail
        go_roundw
        case rel => exact ⟨k + 1, bw, ds ++ [dd], by omega, by go_num, rfl, hb1, by rw [List.length_append, HL.out]; rfl, dg_append HDD.out (dg_one hddl), HR.out, HP.out, below_set HB.out (Nat.le_refl _) _⟩
        case measure => simp [intOf]; omega
      · have hdy0 : dy = 0 := by rw [hdy]; exact getD_zero_of_le (by unfold ln at hkq; omega)
        have hhi2 := hhi1 hdy0
        have hlo2 := hlo1 hdy0
        clear hdy hdy0 hhi hlo hhi1 hlo1
        go_wp2_with fail
        go_roundw
        case rel => exact ⟨k + 1, bw, ds ++ [dd], by omega, by go_num, rfl, hb1, by rw [List.length_append, HL.out]; rfl, dg_append HDD.out (dg_one hddl), HR.out, HP.out, below_set HB.out (Nat.le_refl _) _⟩
        case measure => simp [intOf]; omega
    · have hke : k = ln m := by omega
      subst hke
      have hv2 : val ds = m - n := by
        have h1 := HV.out
        rw [val_take_all (Nat.le_refl _), val_take_all hgt] at h1
        have h2 := val_lt HDD.out
        rw [HL.out] at h2
        rcases Nat.lt_or_ge cy 1 with h3 | h3
        · have : cy = 0 := by omega
          subst this
          simp at h1
          omega
        · have : cy = 1 := by omega
          subst this
          simp at h1
          omega
      have hput : Blk wr w.heap.size 72 (cells ds) := by
        have := HK.out
        simpa using this
      have hc := trim_calls (some ⟨w.heap.size, 0, none⟩) (ln m) ds _ hput.reads HDD.out (by have := HL.out; omega) (by omega)
      have hrn := hput.reads.of_take HDD.out
      rw [HL.out, hv2] at hc
      rw [hv2] at hrn
      have hfin : ln (m - n) ≤ ln m := ln_mono (Nat.sub_le _ _)
      have HC := Hd.mk hc
      have HRN := Hd.mk hrn
      clear hput hv2 hc hrn hck
      go_wp2_with (first | (go_at_call 123; refine HC.out.mono ?_; rintro e w' ⟨rfl, rfl⟩))
      go_ret
      exact ⟨_, _, rfl, ⟨HRN.out, hfin, by omega⟩, HB.out⟩
end Go.Proofs.Ytcjcpfafalkceaa
set_option linter.unusedVariables false
namespace Go.Proofs.Ytcjcpfafalkceaa
open Go.RowKit
set_option maxRecDepth 100000 in
theorem rtimes_calls (A1 : Option Addr) (c1 m : Nat) (A2 : Option Addr) (c2 n : Nat) (w : World) (h1 : NN w A1 c1 m) (h2 : NN w A2 c2 n) (l1 : ln m ≤ 1073741824) (l2 : ln n ≤ 1073741824) :
    Calls Try.prog 82 #[.slice A1 (ln m) c1, .slice A2 (ln n) c2] w (RetN (m * n) w) := by
  have HX := Hd.mk h2
  have HY := Hd.mk h1
  clear h1 h2
  have hmk := fun W => make_words 36 Try.underlying36 ((ln m : Int) + (ln n : Int)) (ln n + ln m) (by omega) (by omega) W
  go_enter Try.func82, Try.ntmps82
  go_wp2
  clear hmk
  go_loopw [19] (fun s33 wr => ∃ (i : Nat) (ds : List Nat), i ≤ ln m ∧ s33 = .int .i64 i ∧ ds.length = ln n + ln m ∧ Dg ds ∧ val ds = n * val ((dig m).take i) ∧ (∀ t, i + ln n ≤ t → ds.getD t 0 = 0) ∧ Blk wr w.heap.size 72 (cells ds) ∧ Below w.heap.size w wr) (fun s _ => ln m - (intOf s).toNat)
  case atStart => exact ⟨0, List.replicate (ln n + ln m) 0, Nat.zero_le _, rfl, by simp, dg_zeros _, by rw [val_zeros]; simp [val], fun t _ => getD_zeros _ t, heap_alloc_new w _, below_alloc (Below.refl _ _) _⟩
  case round =>
    obtain ⟨i, ds, hi, rfl, hdl, hdd, hval, hzz, hblk, hbel⟩ := hrel
    have HV := Hd.mk hval
    have HK := Hd.mk hblk
    have HL := Hd.mk hdl
    have HB := Hd.mk hbel
    have HDD := Hd.mk hdd
    have HZZ := Hd.mk hzz
    clear hval hblk hdl hbel hdd hzz
    by_cases hil : i < ln m
    · obtain ⟨a2, rfl, hcell2⟩ := (HY.out.to HB.out).at_ hil
      obtain ⟨x, hx⟩ : ∃ x, x = (dig m).getD i 0 := ⟨_, rfl⟩
      have hx1 : x < 4294967296 := by rw [hx]; exact dg_get (dg_dig _) i
      rw [← hx] at hcell2
      have HXX := Hd.mk hx
      clear hx
      obtain ⟨wo, hwo⟩ : ∃ wo : World, wo = wr := ⟨_, rfl⟩
      subst hwo
      go_wp2_with fail
      go_loopw [8, 26] (fun s8 s40 wr => ∃ (j c : Nat) (es : List Nat), j ≤ ln n ∧ s40 = .int .i64 j ∧ s8 = .int .u64 ((c : Nat) : Int) ∧ c < 4294967296 ∧ es.length = ln n + ln m ∧ Dg es ∧ val es + B ^ (i + j) * c = val ds + B ^ i * (x * val ((dig n).take j)) ∧ (∀ t, i + ln n ≤ t → es.getD t 0 = 0) ∧ Blk wr w.heap.size 72 (cells es) ∧ Below w.heap.size w wr) (fun _ s _ => ln n - (intOf s).toNat)
      case atStart => exact ⟨0, 0, ds, Nat.zero_le _, rfl, rfl, by decide, HL.out, HDD.out, by simp [val], HZZ.out, HK.out, HB.out⟩
      case round =>
        obtain ⟨j, c, es, hj, rfl, rfl, hc, hel, hed, hval, hzz, hblk, hbel⟩ := hrel
        have HV2 := Hd.mk hval
        have HK2 := Hd.mk hblk
        have HL2 := Hd.mk hel
        have HB2 := Hd.mk hbel
        have HDD2 := Hd.mk hed
        have HZZ2 := Hd.mk hzz
        clear hval hblk hel hbel hed hzz
        by_cases hjl : j < ln n
        · obtain ⟨a1, rfl, hcell1⟩ := (HX.out.to HB2.out).at_ hjl
          obtain ⟨y, hy⟩ : ∃ y, y = (dig n).getD j 0 := ⟨_, rfl⟩
          have hy1 : y < 4294967296 := by rw [hy]; exact dg_get (dg_dig _) j
          rw [← hy] at hcell1
          have hck := HK2.out.at_ (i := i + j) (by have := HL2.out; omega)
          have hfz := HK2.out.frozen (i + j)
          have hstep := mul_step (ds := es) (y := y) (by have := HL2.out; omega) HV2.out
          have hput := HK2.out.put (i + j) ((x * y + es.getD (i + j) 0 + c) % 4294967296)
          have ho : es.getD (i + j) 0 < 4294967296 := dg_get HDD2.out (i + j)
          obtain ⟨o, ho'⟩ : ∃ o, o = es.getD (i + j) 0 := ⟨_, rfl⟩
          rw [← ho'] at hck hstep hput ho
          have hfit := mul_fits hx1 hy1 ho hc
          obtain ⟨p, hp⟩ : ∃ p, p = x * y := ⟨_, rfl⟩
          have hp' : (x : Int) * (y : Int) = (p : Int) := by rw [hp]; exact (Int.natCast_mul x y).symm
          rw [← hp] at hfit hstep hput
          obtain ⟨hf1, hf2, hf3⟩ := hfit
          have e1 : (((p + o + c) % 4294967296 : Nat) : Int) = ((c : Int) + ((o : Int) + (p : Int))) % 4294967296 := by omega
          have e2 : (((p + o + c) / 4294967296 : Nat) : Int) = ((c : Int) + ((o : Int) + (p : Int))) / 4294967296 := by omega
          have e3 : ((i : Int) + (j : Int)).toNat = i + j := by omega
          have HS := Hd.mk hstep
          have HP := Hd.mk hput
          have HYY := Hd.mk hy
          have E1 := Hd.mk e1
          have E2 := Hd.mk e2
          clear hstep hput hy ho' hp e1 e2
          have hw64 : (c : Int) + ((o : Int) + (p : Int)) ≤ 18446744073709551615 := by omega
          go_wp2_with fail
          go_roundw
          case rel =>
            refine ⟨j + 1, (p + o + c) / 4294967296, es.set (i + j) ((p + o + c) % 4294967296), by omega, by go_num, by rw [E2.out], hf3, by rw [List.length_set]; exact HL2.out, dg_set HDD2.out _ (Nat.mod_lt _ (by decide)), ?_, ?_, ?_, below_set HB2.out (Nat.le_refl _) _⟩
            · rw [val_take_next, ← HYY.out]; exact HS.out
            · intro t ht; rw [getD_set_ne (by omega)]; exact HZZ2.out t ht
            · rw [← E1.out]; exact HP.out
          case measure => simp [intOf]; omega
        · have hje : j = ln n := by omega
          subst hje
          have hck := HK2.out.at_ (i := i + ln n) (by have := HL2.out; omega)
          have hfz := HK2.out.frozen (i + ln n)
          have hput := HK2.out.put (i + ln n) c
          have hz0 := HZZ2.out (i + ln n) (Nat.le_refl _)
          have hvs := val_set (ds := es) (i := i + ln n) (by have := HL2.out; omega) c
          rw [hz0] at hck hvs
          have e3 : ((i : Int) + (ln n : Int)).toNat = i + ln n := by omega
          have hnew : val (es.set (i + ln n) c) = n * val ((dig m).take (i + 1)) := by
            have h1 := HV2.out
            have h2 := HV.out
            rw [val_take_all (Nat.le_refl _)] at h1
            rw [val_take_next, ← HXX.out, Nat.mul_add, ← h2, Nat.mul_left_comm n, Nat.mul_comm n x, ← h1]
            omega
          have HN := Hd.mk hnew
          have HP := Hd.mk hput
          clear hnew hput hvs hz0
          go_wp2_with fail
          go_roundw
          case rel =>
            refine ⟨i + 1, es.set (i + ln n) c, by omega, by go_num, by rw [List.length_set]; exact HL2.out, dg_set HDD2.out _ hc, HN.out, ?_, HP.out, below_set HB2.out (Nat.le_refl _) _⟩
            intro t ht
            rw [getD_set_ne (by omega)]
            exact HZZ2.out t (by omega)
          case measure => simp [intOf]; omega
    · have hie : i = ln m := by omega
      subst hie
      have hv2 : val ds = m * n := by
        rw [HV.out, val_take_all (Nat.le_refl _)]
        try exact Nat.mul_comm _ _
      have hc := trim_calls (some ⟨w.heap.size, 0, none⟩) (ln n + ln m) ds _ HK.out.reads HDD.out (by have := HL.out; omega) (by omega)
      have hrn := HK.out.reads.of_take HDD.out
      rw [HL.out, hv2] at hc
      rw [hv2] at hrn
      have hfin : ln (m * n) ≤ ln n + ln m := Nat.le_trans (ln_mul m n) (by omega)
      have HC := Hd.mk hc
      have HRN := Hd.mk hrn
      clear hv2 hc hrn
      go_wp2_with (first | (go_at_call 123; refine HC.out.mono ?_; rintro e w' ⟨rfl, rfl⟩))
      go_ret
      exact ⟨_, _, rfl, ⟨HRN.out, hfin, by omega⟩, HB.out⟩
end Go.Proofs.Ytcjcpfafalkceaa
set_option linter.unusedVariables false
namespace Go.Proofs.Ytcjcpfafalkceaa
open Go.RowKit
section
variable {w w' W : World} {g : Nat} {t t1 t2 t3 : TypeId} {x0 x1 y0 y1 r0 r1 : Value} {cs : List Value}
theorem Blk.c0 (h : Blk w g t (x0 :: cs)) : w.cell? ⟨g, 0, none⟩ = some x0 := h.cell 0
theorem Blk.c1 (h : Blk w g t (x0 :: x1 :: cs)) : w.cell? ⟨g, 1, none⟩ = some x1 := h.cell 1
theorem Blk.f0 (h : Blk w g t (x0 :: cs)) : w.frozen? ⟨g, 0, none⟩ = false := h.frozen 0
theorem Blk.f1 (h : Blk w g t (x0 :: x1 :: cs)) : w.frozen? ⟨g, 1, none⟩ = false := h.frozen 1
theorem boxes2 (h : W = (w.alloc (.cells #[x0, x1] t1)).alloc (.cells #[y0, y1] t2)) : Blk W w.heap.size t1 [x0, x1] ∧ Blk W (w.heap.size + 1) t2 [y0, y1] ∧ Below w.heap.size w W := by
  subst h
  exact ⟨Blk.alloc (heap_alloc_new _ _) _, blk_second w _ [y0, y1] t2, below_alloc (below_alloc (Below.refl _ _) _) _⟩
theorem boxes3 (h : W = ((w.alloc (.cells #[x0, x1] t1)).alloc (.cells #[y0, y1] t2)).alloc (.cells #[r0, r1] t3)) : Blk W w.heap.size t1 [x0, x1] ∧ Blk W (w.heap.size + 1) t2 [y0, y1] ∧ Blk W (w.heap.size + 1 + 1) t3 [r0, r1] ∧ Below w.heap.size w W := by
  subst h
  exact ⟨Blk.alloc (Blk.alloc (heap_alloc_new _ _) _) _, (blk_second w _ [y0, y1] t2).alloc _, blk_third w _ _ [r0, r1] t3, below_alloc (below_alloc (below_alloc (Below.refl _ _) _) _) _⟩
end
theorem ln_pos {n : Nat} : 0 < ln n ↔ 0 < n := by
  have := ln_eq_zero (n := n)
  omega
theorem signed_calls (b b2 : Bool) (A : Option Addr) (l c : Nat) (w : World) (hl : l ≤ 9223372036854775807) (h : (b && decide (0 < l)) = b2) :
    Calls Try.prog 81 #[.bool b, .slice A l c] w fun e w' => e = .returned (.agg #[.bool b2, .slice A l c]) ∧ Below w.heap.size w w' := by
  have H := Hd.mk h
  clear h
  rcases b with _ | _
  · have : b2 = false := by rw [← H.out]; rfl
    subst this
    go_enter Try.func81, Try.ntmps81
    go_wp2_with fail
    exact bodyPost_ret (v := .agg #[.bool false, .slice A l c]) (by simp [results, Try.results81, go_sem]) rfl ⟨rfl, by repeat (first | exact HB.out | exact Below.refl _ _ | refine below_alloc ?_ _ | refine below_drewN ?_ _ | refine below_drew ?_ | refine below_set ?_ (by first | exact Nat.le_refl _ | omega | (simp; done) | (simp; omega)) _)⟩
  · by_cases h0 : 0 < l
    · have : b2 = true := by rw [← H.out]; simp [h0]
      subst this
      have hd : decide (0 < l) = true := decide_eq_true h0
      go_enter Try.func81, Try.ntmps81
      go_wp2_with fail
      exact bodyPost_ret (v := .agg #[.bool true, .slice A l c]) (by simp [results, Try.results81, go_sem]) rfl ⟨rfl, by repeat (first | exact HB.out | exact Below.refl _ _ | refine below_alloc ?_ _ | refine below_drewN ?_ _ | refine below_drew ?_ | refine below_set ?_ (by first | exact Nat.le_refl _ | omega | (simp; done) | (simp; omega)) _)⟩
    · have : b2 = false := by rw [← H.out]; simp [h0]
      subst this
      have hd : decide (0 < l) = false := decide_eq_false h0
      go_enter Try.func81, Try.ntmps81
      go_wp2_with fail
      exact bodyPost_ret (v := .agg #[.bool false, .slice A l c]) (by simp [results, Try.results81, go_sem]) rfl ⟨rfl, by repeat (first | exact HB.out | exact Below.refl _ _ | refine below_alloc ?_ _ | refine below_drewN ?_ _ | refine below_drew ?_ | refine below_set ?_ (by first | exact Nat.le_refl _ | omega | (simp; done) | (simp; omega)) _)⟩
def sgnv (z : Int) : Int := if z < 0 then -1 else if z = 0 then 0 else 1
theorem rSign_calls (z : Int) (A : Option Addr) (c : Nat) (w : World) (hl : ln z.natAbs ≤ 9223372036854775807) :
    Calls Try.prog 43 #[.agg #[.bool (decide (z < 0)), .slice A (ln z.natAbs) c]] w fun e w' => e = .returned (.int .i64 (sgnv z)) ∧ Below w.heap.size w w' := by
  by_cases h0 : z = 0
  · subst h0
    rw [show ln (Int.natAbs 0) = 0 from ln_zero, show decide ((0 : Int) < 0) = false from rfl, show sgnv 0 = 0 from rfl]
    go_enter Try.func43, Try.ntmps43
    go_wp2
    go_ret
    exact ⟨rfl, by repeat (first | exact HB.out | exact Below.refl _ _ | refine below_alloc ?_ _ | refine below_drewN ?_ _ | refine below_drew ?_ | refine below_set ?_ (by first | exact Nat.le_refl _ | omega | (simp; done) | (simp; omega)) _)⟩
  · have hne : ((ln z.natAbs : Int) == 0) = false := by
      have := ln_eq_zero (n := z.natAbs)
      rw [beq_eq_false_iff_ne]
      omega
    by_cases hz : z < 0
    · have hs : sgnv z = -1 := if_pos hz
      have hd : decide (z < 0) = true := decide_eq_true hz
      rw [hs, hd]
      clear hs hd hz h0
      go_enter Try.func43, Try.ntmps43
      go_wp2
      go_ret
      exact ⟨rfl, by repeat (first | exact HB.out | exact Below.refl _ _ | refine below_alloc ?_ _ | refine below_drewN ?_ _ | refine below_drew ?_ | refine below_set ?_ (by first | exact Nat.le_refl _ | omega | (simp; done) | (simp; omega)) _)⟩
    · have hs : sgnv z = 1 := by unfold sgnv; rw [if_neg hz, if_neg h0]
      have hd : decide (z < 0) = false := decide_eq_false hz
      rw [hs, hd]
      clear hs hd hz h0
      go_enter Try.func43, Try.ntmps43
      go_wp2
      go_ret
      exact ⟨rfl, by repeat (first | exact HB.out | exact Below.refl _ _ | refine below_alloc ?_ _ | refine below_drewN ?_ _ | refine below_drew ?_ | refine below_set ?_ (by first | exact Nat.le_refl _ | omega | (simp; done) | (simp; omega)) _)⟩
theorem rZero_calls (b : Bool) (A : Option Addr) (l c : Nat) (w : World) (hl : l ≤ 9223372036854775807) :
    Calls Try.prog 44 #[.agg #[.bool b, .slice A l c]] w fun e w' => e = .returned (.bool (decide (l = 0))) ∧ Below w.heap.size w w' := by
  go_enter Try.func44, Try.ntmps44
  go_wp2
  go_ret
  exact ⟨ret_bool (by rw [Bool.eq_iff_iff]; simp), by repeat (first | exact HB.out | exact Below.refl _ _ | refine below_alloc ?_ _ | refine below_drewN ?_ _ | refine below_drew ?_ | refine below_set ?_ (by first | exact Nat.le_refl _ | omega | (simp; done) | (simp; omega)) _)⟩
theorem rFits_calls (b : Bool) (A : Option Addr) (l c : Nat) (w : World) (hl : l ≤ 9223372036854775807) :
    Calls Try.prog 86 #[.agg #[.bool b, .slice A l c]] w fun e w' => e = .returned (.bool (decide (l ≤ 256))) ∧ Below w.heap.size w w' := by
  go_enter Try.func86, Try.ntmps86
  go_wp2
  go_ret
  exact ⟨ret_bool (by rw [Bool.eq_iff_iff]; simp; omega), by repeat (first | exact HB.out | exact Below.refl _ _ | refine below_alloc ?_ _ | refine below_drewN ?_ _ | refine below_drew ?_ | refine below_set ?_ (by first | exact Nat.le_refl _ | omega | (simp; done) | (simp; omega)) _)⟩
theorem rInt_calls (b : Bool) (A : Option Addr) (n c : Nat) (w : World) :
    Calls Try.prog 23 #[.agg #[.bool b, .slice A n c]] w fun e w' => e = .returned (.agg #[.bool b, .slice A n c]) ∧ Below w.heap.size w w' := by
  go_enter Try.func23, Try.ntmps23
  go_wp2_with fail
  exact bodyPost_ret (v := .agg #[.bool b, .slice A n c]) (by simp [results, Try.results23, go_sem]) rfl ⟨rfl, by repeat (first | exact HB.out | exact Below.refl _ _ | refine below_alloc ?_ _ | refine below_drewN ?_ _ | refine below_drew ?_ | refine below_set ?_ (by first | exact Nat.le_refl _ | omega | (simp; done) | (simp; omega)) _)⟩
theorem rOf_calls (b : Bool) (A : Option Addr) (n c : Nat) (w : World) :
    Calls Try.prog 32 #[.agg #[.bool b, .slice A n c]] w fun e w' => e = .returned (.agg #[.bool b, .slice A n c]) ∧ Below w.heap.size w w' := by
  go_enter Try.func32, Try.ntmps32
  go_wp2_with fail
  exact bodyPost_ret (v := .agg #[.bool b, .slice A n c]) (by simp [results, Try.results32, go_sem]) rfl ⟨rfl, by repeat (first | exact HB.out | exact Below.refl _ _ | refine below_alloc ?_ _ | refine below_drewN ?_ _ | refine below_drew ?_ | refine below_set ?_ (by first | exact Nat.le_refl _ | omega | (simp; done) | (simp; omega)) _)⟩
theorem sgn_minus (z : Int) : ((!decide (z < 0)) && decide (0 < ln z.natAbs)) = decide (-z < 0) := by
  rw [Bool.eq_iff_iff]; simp [ln_pos]; omega
theorem sgn_mul (x y : Int) : ((decide (x < 0) != decide (y < 0)) && decide (0 < ln (x * y).natAbs)) = decide (x * y < 0) := by
  have hp : decide (0 < ln (x * y).natAbs) = decide (x * y ≠ 0) := by apply decide_eq_decide.2; rw [ln_pos]; omega
  rw [hp]
  rcases Int.lt_trichotomy x 0 with hx | rfl | hx <;> rcases Int.lt_trichotomy y 0 with hy | rfl | hy <;> try simp
  · have := Int.mul_pos_of_neg_of_neg hx hy
    simp [hx, hy]; omega
  · have := Int.mul_neg_of_neg_of_pos hx hy
    have h2 : ¬ y < 0 := by omega
    simp [hx, h2, this]; omega
  · have := Int.mul_neg_of_pos_of_neg hx hy
    have h2 : ¬ x < 0 := by omega
    simp [hy, h2, this]; omega
  · have := Int.mul_pos hx hy
    have h1 : ¬ x < 0 := by omega
    have h2 : ¬ y < 0 := by omega
    simp [h1, h2]; omega
theorem rMinus_calls (z : Int) (A : Option Addr) (c : Nat) (w : World) (h : NN w A c z.natAbs) :
    Calls Try.prog 46 #[.agg #[.bool (decide (z < 0)), .slice A (ln z.natAbs) c]] w fun e w' => e = .returned (.agg #[.bool (decide (-z < 0)), .slice A (ln z.natAbs) c]) ∧ Below w.heap.size w w' := by
  have hl := Nat.le_trans h.2.1 h.2.2
  have HS := Hd.mk (sgn_minus z)
  clear h
  obtain ⟨b1, hb1⟩ : ∃ b, b = decide (z < 0) := ⟨_, rfl⟩
  obtain ⟨b2, hb2⟩ : ∃ b, b = decide (-z < 0) := ⟨_, rfl⟩
  rw [← hb1, ← hb2] at HS ⊢
  clear hb1 hb2
  go_enter Try.func46, Try.ntmps46
  go_wp2_with (first | (go_at_call 81; refine (signed_calls (!b1) b2 _ _ _ _ hl HS.out).mono ?_; rintro e w1 ⟨rfl, hb1⟩; obtain ⟨hc1, hf1⟩ := bcell hb1; have hz1 : w.heap.size + 1 < w1.heap.size := (by have := hb1.size; simp at this; omega); have HB : Hd (Below w.heap.size w w1) := ⟨bel_then (by repeat (first | exact HB.out | exact Below.refl _ _ | refine below_alloc ?_ _ | refine below_drewN ?_ _ | refine below_drew ?_ | refine below_set ?_ (by first | exact Nat.le_refl _ | omega | (simp; done) | (simp; omega)) _)) hb1⟩; clear hb1))
  have g0 : w1.cell? ⟨w.heap.size + 1, 0, none⟩ = some (.bool false) := (hc1 _ _ (by simp)).trans (blk_second w _ [.bool false, .slice none 0 0] 38).c0
  have g1 : w1.cell? ⟨w.heap.size + 1, 1, none⟩ = some (.slice none 0 0) := (hc1 _ _ (by simp)).trans (blk_second w _ [.bool false, .slice none 0 0] 38).c1
  obtain ⟨k0, k1, k2⟩ := two_set g0 g1 (.bool b2) (.slice A (ln z.natAbs) c)
  refine bodyPost_ret (v := .agg #[.bool b2, .slice A (ln z.natAbs) c]) (by simp [results, Try.results46, go_sem, k0, k1]) rfl ?_
  exact ⟨rfl, by repeat (first | exact HB.out | exact Below.refl _ _ | refine below_alloc ?_ _ | refine below_drewN ?_ _ | refine below_drew ?_ | refine below_set ?_ (by first | exact Nat.le_refl _ | omega | (simp; done) | (simp; omega)) _)⟩
set_option maxRecDepth 100000 in
theorem rTimes_calls (x y : Int) (A1 : Option Addr) (c1 : Nat) (A2 : Option Addr) (c2 : Nat) (w : World) (h1 : NN w A1 c1 x.natAbs) (h2 : NN w A2 c2 y.natAbs) (l1 : ln x.natAbs ≤ 268435456) (l2 : ln y.natAbs ≤ 268435456) :
    Calls Try.prog 31 #[.agg #[.bool (decide (x < 0)), .slice A1 (ln x.natAbs) c1], .agg #[.bool (decide (y < 0)), .slice A2 (ln y.natAbs) c2]] w (RetZ (x * y) w) := by
  have HS := Hd.mk (sgn_mul x y)
  have HT := Hd.mk (fun W (hW : Below w.heap.size w W) => rtimes_calls A1 c1 x.natAbs A2 c2 y.natAbs W (h1.to hW) (h2.to hW) (by omega) (by omega))
  rw [← Int.natAbs_mul x y] at HT
  clear h1 h2
  obtain ⟨b1, hb1⟩ : ∃ b, b = decide (x < 0) := ⟨_, rfl⟩
  obtain ⟨b2, hb2⟩ : ∃ b, b = decide (y < 0) := ⟨_, rfl⟩
  obtain ⟨b3, hb3⟩ : ∃ b, b = decide (x * y < 0) := ⟨_, rfl⟩
  rw [← hb1, ← hb2] at HS ⊢
  rw [← hb3] at HS
  have HB3 := Hd.mk hb3
  clear hb1 hb2 hb3
  go_enter Try.func31, Try.ntmps31
  go_wp2_with fail
  obtain ⟨W0, hW0⟩ : ∃ W : World, W = ((w.alloc (.cells #[.bool b1, .slice A1 (ln x.natAbs) c1] 38)).alloc (.cells #[.bool b2, .slice A2 (ln y.natAbs) c2] 38)).alloc (.cells #[.bool false, .slice none 0 0] 38) := ⟨_, rfl⟩
  rw [← hW0]
  have HSZ : Hd (w.heap.size + 1 + 1 + 1 = W0.heap.size) := ⟨by rw [hW0]; simp⟩
  obtain ⟨hB0, hB1, hB2, hBW⟩ := boxes3 hW0
  have q0 := hB0.c0
  have q1 := hB0.c1
  have q2 := hB1.c0
  have q3 := hB1.c1
  have g0 := hB2.c0
  have g1 := hB2.c1
  have u0 := hB2.f0
  have u1 := hB2.f1
  have Q0 := Hd.mk hB0
  have Q1 := Hd.mk hB1
  have QR := Hd.mk hB2
  have HW := Hd.mk hBW
  have HB : Hd (Below W0.heap.size W0 W0) := ⟨Below.refl _ _⟩
  clear hB0 hB1 hB2 hBW hW0
  go_region_held3 (fun w' => w'.cell? ⟨w.heap.size, 0, none⟩ = some (.bool b1) ∧ w'.cell? ⟨w.heap.size, 1, none⟩ = some (.slice A1 (ln x.natAbs) c1) ∧ w'.cell? ⟨w.heap.size + 1, 0, none⟩ = some (.bool b2) ∧ w'.cell? ⟨w.heap.size + 1, 1, none⟩ = some (.slice A2 (ln y.natAbs) c2)) (first | exact ⟨q0, q1, q2, q3⟩ | (repeat' apply And.intro) <;> (first | exact q0 | exact q1 | exact q2 | exact q3 | (go_keep; done) | (rw [World.cell?_setCell_far _ _ _ _ (by first | (simp; done) | (simp; omega)), World.cell?_setCell_far _ _ _ _ (by first | (simp; done) | (simp; omega))]; first | exact q0 | exact q1 | exact q2 | exact q3)))
    (first | (go_at_call 82; refine (HT.out _ (bel_then HW.out (by repeat (first | exact HB.out | exact Below.refl _ _ | refine below_alloc ?_ _ | refine below_drewN ?_ _ | refine below_drew ?_ | refine below_set ?_ (by first | exact Nat.le_refl _ | omega | (simp; done) | (simp; omega)) _)))).mono ?_; rintro e w1 ⟨A3, c3, rfl, hn1, hb1⟩; have hl3 := Nat.le_trans hn1.2.1 hn1.2.2; have HN1 := Hd.mk hn1; clear hn1; have HB' : Hd (Below W0.heap.size W0 _) := ⟨bel_then (by repeat (first | exact HB.out | exact Below.refl _ _ | refine below_alloc ?_ _ | refine below_drewN ?_ _ | refine below_drew ?_ | refine below_set ?_ (by first | exact Nat.le_refl _ | omega | (simp; done) | (simp; omega)) _)) hb1⟩; clear HB; have HB := HB'; clear HB' hb1; replace q0 := (Q0.out.to HB.out).c0; replace q1 := (Q0.out.to HB.out).c1; replace q2 := (Q1.out.to HB.out).c0; replace q3 := (Q1.out.to HB.out).c1; replace g0 := (QR.out.to HB.out).c0; replace g1 := (QR.out.to HB.out).c1; replace u0 := (QR.out.to HB.out).f0; replace u1 := (QR.out.to HB.out).f1) | (go_at_call 81; refine (signed_calls (b1 != b2) b3 _ _ _ _ hl3 HS.out).mono ?_; rintro e w2 ⟨rfl, hb2⟩; have HN := Hd.mk (HN1.out.to hb2); clear HN1; have HB' : Hd (Below W0.heap.size W0 _) := ⟨bel_then (by repeat (first | exact HB.out | exact Below.refl _ _ | refine below_alloc ?_ _ | refine below_drewN ?_ _ | refine below_drew ?_ | refine below_set ?_ (by first | exact Nat.le_refl _ | omega | (simp; done) | (simp; omega)) _)) hb2⟩; clear HB; have HB := HB'; clear HB' hb2; replace q0 := (Q0.out.to HB.out).c0; replace q1 := (Q0.out.to HB.out).c1; replace q2 := (Q1.out.to HB.out).c0; replace q3 := (Q1.out.to HB.out).c1; replace g0 := (QR.out.to HB.out).c0; replace g1 := (QR.out.to HB.out).c1; replace u0 := (QR.out.to HB.out).f0; replace u1 := (QR.out.to HB.out).f1))
  go_wp2_with fail
  obtain ⟨k0, k1, k2⟩ := two_set g0 g1 (.bool b3) (.slice A3 (ln (x * y).natAbs) c3)
  refine bodyPost_ret (v := .agg #[.bool b3, .slice A3 (ln (x * y).natAbs) c3]) (by simp [results, Try.results31, go_sem, k0, k1]) rfl ?_
  exact ⟨A3, c3, by rw [HB3.out], (HN.out.set_ g0 (by intro t; simp) _).set_ k2 (by intro t; simp) _, (by repeat (first | exact bel_then HW.out HB.out | refine below_set ?_ (by first | exact Nat.le_refl _ | omega | (simp; done) | (simp; omega)) _ | refine below_alloc ?_ _ | refine below_drewN ?_ _ | refine below_drew ?_))⟩
end Go.Proofs.Ytcjcpfafalkceaa
