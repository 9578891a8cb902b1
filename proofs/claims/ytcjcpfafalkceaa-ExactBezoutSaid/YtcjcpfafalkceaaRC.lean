/- The reference's natural numbers: differences. -/
import Derived.Test.YtcjcpfafalkceaaRB
import Derived.Test.YtcjcpfafalkceaaB
set_option linter.unusedVariables false
namespace Go.Proofs.Ytcjcpfafalkceaa
open Go.RowKit
theorem sub64_low1 (x c : Nat) (d : Nat) (h : (d : Int) = ((x : Int) - c) % 4294967296) : IntKind.u64.wrap ((x : Int) - c) % 4294967296 = (d : Int) := by
  rw [IntKind.wrap_u64]; omega
theorem sub64_low2 (x c y : Nat) (d : Nat) (h : (d : Int) = ((x : Int) - c - y) % 4294967296) : IntKind.u64.wrap (IntKind.u64.wrap ((x : Int) - c) - y) % 4294967296 = (d : Int) := by
  rw [IntKind.wrap_u64, IntKind.wrap_u64]; omega
theorem sub64_high1 (x c : Nat) (hx : x < 4294967296) (hc : c ≤ 1) (b : Nat) (h : b = if x < c then 1 else 0) : IntKind.u64.wrap ((x : Int) - c) / 9223372036854775808 = (b : Int) := by
  rw [IntKind.wrap_u64, h]; split <;> omega
theorem sub64_high2 (x y c : Nat) (hx : x < 4294967296) (hy : y < 4294967296) (hc : c ≤ 1) (b : Nat) (h : b = if x < y + c then 1 else 0) : IntKind.u64.wrap (IntKind.u64.wrap ((x : Int) - c) - y) / 9223372036854775808 = (b : Int) := by
  rw [IntKind.wrap_u64, IntKind.wrap_u64, h]; split <;> omega
set_option maxRecDepth 100000 in
theorem rless_calls (A1 : Option Addr) (c1 m : Nat) (A2 : Option Addr) (c2 n : Nat) (w : World) (h1 : NN w A1 c1 m) (h2 : NN w A2 c2 n) (hnm : n ≤ m) (l1 : ln m ≤ 1073741824) :
    Calls Try.prog 84 #[.slice A1 (ln m) c1, .slice A2 (ln n) c2] w (RetN (m - n) w) := by
  have HX := Hd.mk h1
  have HY := Hd.mk h2
  clear h1 h2
  have hgt := ln_mono hnm
  have hmk := fun W => make_words 36 Try.underlying36 (ln m : Int) (ln m) (by omega) (by omega) W
  go_enter Try.func84, Try.ntmps84
  go_wp2
  clear hmk
  go_loopw [6, 14] (fun s6 s22 wr => ∃ (k cy : Nat) (ds : List Nat), k ≤ ln m ∧ s22 = .int .i64 k ∧ s6 = .int .u64 ((cy : Nat) : Int) ∧ cy ≤ 1 ∧ ds.length = k ∧ Dg ds ∧ val ds + val ((dig n).take k) = val ((dig m).take k) + B ^ k * cy ∧ Blk wr w.heap.size 72 (cells (ds ++ List.replicate (ln m - k) 0)) ∧ Below w.heap.size w wr) (fun _ s22 _ => ln m - (intOf s22).toNat)
  case atStart => exact ⟨0, 0, [], Nat.zero_le _, rfl, rfl, Nat.zero_le _, rfl, (fun x hx => by cases hx), by simp [val], heap_alloc_new w _, below_alloc (Below.refl _ _) _⟩
  case round =>
    obtain ⟨k, cy, ds, hk, rfl, rfl, hcy, hdl, hdd, hval, hblk, hbel⟩ := hrel
    have HV := Hd.mk hval
    have HK := Hd.mk hblk
    have HL := Hd.mk hdl
    have HB := Hd.mk hbel
    have HDD := Hd.mk hdd
    have hfz := hblk.frozen k
    have hck : k < ln m → _ := fun hh => hblk.at_ (i := k) (by simp; omega)
    clear hval hblk hdl hbel hdd
    by_cases hkl : k < ln m
    · have hck := hck hkl
      obtain ⟨a1, rfl, hcell1⟩ := (HX.out.to HB.out).at_ hkl
      obtain ⟨dx, hdx⟩ : ∃ dx, dx = (dig m).getD k 0 := ⟨_, rfl⟩
      have hdx1 : dx < 4294967296 := by rw [hdx]; exact dg_get (dg_dig _) k
      obtain ⟨dy, hdy⟩ : ∃ dy, dy = (dig n).getD k 0 := ⟨_, rfl⟩
      have hdy1 : dy < 4294967296 := by rw [hdy]; exact dg_get (dg_dig _) k
      rw [← hdx] at hcell1
      have hz := get_zero ds (ln m - k) k (by have := HL.out; omega)
      rw [hz] at hck
      have hrel' : val (ds ++ [(4294967296 + dx - dy - cy) % 4294967296]) + val ((dig n).take (k + 1)) = val ((dig m).take (k + 1)) + B ^ (k + 1) * (if dx < dy + cy then 1 else 0) := by
        rw [val_take_next, val_take_next, ← hdx, ← hdy]
        exact sub_step HL.out hdx1 hdy1 hcy HV.out
      have hput : Blk (wr.setCell ⟨w.heap.size, k, none⟩ (.int .u32 (((4294967296 + dx - dy - cy) % 4294967296 : Nat) : Int))) w.heap.size 72 (cells ((ds ++ [(4294967296 + dx - dy - cy) % 4294967296]) ++ List.replicate (ln m - (k + 1)) 0)) := by
        have := HK.out.put k ((4294967296 + dx - dy - cy) % 4294967296)
        rw [← HL.out, set_next ds _ _ (by have := HL.out; omega)] at this
        rw [← HL.out]
        exact this
      have hb1 : (if dx < dy + cy then 1 else 0 : Nat) ≤ 1 := by split <;> omega
      obtain ⟨bw, hbw⟩ : ∃ bw : Nat, bw = (if dx < dy + cy then 1 else 0 : Nat) := ⟨_, rfl⟩
      obtain ⟨dd, hddq⟩ : ∃ dd : Nat, dd = (4294967296 + dx - dy - cy) % 4294967296 := ⟨_, rfl⟩
      have hddl : dd < B := by rw [hddq]; exact Nat.mod_lt _ (by decide)
      rw [← hbw, ← hddq] at hrel'
      rw [← hddq] at hput
      rw [← hbw] at hb1
      have hhi := sub64_high2 dx dy cy hdx1 hdy1 hcy bw hbw
      have hlo := sub64_low2 dx cy dy dd (by omega)
      have hhi1 := fun h0 : dy = 0 => sub64_high1 dx cy hdx1 hcy bw (by rw [hbw, h0]; simp)
      have hlo1 := fun h0 : dy = 0 => sub64_low1 dx cy dd (by omega)
      have HR := Hd.mk hrel'
      have HP := Hd.mk hput
      have HDY := Hd.mk hdy
      clear hrel' hput hz hdx hbw hddq
      by_cases hkq : k < ln n
      · obtain ⟨a2, rfl, hcell2⟩ := (HY.out.to HB.out).at_ hkq
        rw [← hdy] at hcell2
        clear hdy
        clear hhi1 hlo1
        go_wp2_with fail
        go_roundw
        case rel => exact ⟨k + 1, bw, ds ++ [dd], by omega, by go_num, rfl, hb1, by rw [List.length_append, HL.out]; rfl, dg_append HDD.out (dg_one hddl), HR.out, HP.out, below_set HB.out (Nat.le_refl _) _⟩
        case measure => simp [intOf]; omega
      · have hdy0 : dy = 0 := by rw [hdy]; exact getD_zero_of_le (by unfold ln at hkq; omega)
        have hhi2 := hhi1 hdy0
        have hlo2 := hlo1 hdy0
        clear hdy hdy0 hhi hlo hhi1 hlo1
        go_wp2_with fail
        go_roundw
        case rel => exact ⟨k + 1, bw, ds ++ [dd], by omega, by go_num, rfl, hb1, by rw [List.length_append, HL.out]; rfl, dg_append HDD.out (dg_one hddl), HR.out, HP.out, below_set HB.out (Nat.le_refl _) _⟩
        case measure => simp [intOf]; omega
    · have hke : k = ln m := by omega
      subst hke
      have hv2 : val ds = m - n := by
        have h1 := HV.out
        rw [val_take_all (Nat.le_refl _), val_take_all hgt] at h1
        have h2 := val_lt HDD.out
        rw [HL.out] at h2
        rcases Nat.lt_or_ge cy 1 with h3 | h3
        · have : cy = 0 := by omega
          subst this
          simp at h1
          omega
        · have : cy = 1 := by omega
          subst this
          simp at h1
          omega
      have hput : Blk wr w.heap.size 72 (cells ds) := by
        have := HK.out
        simpa using this
      have hc := trim_calls (some ⟨w.heap.size, 0, none⟩) (ln m) ds _ hput.reads HDD.out (by have := HL.out; omega) (by omega)
      have hrn := hput.reads.of_take HDD.out
      rw [HL.out, hv2] at hc
      rw [hv2] at hrn
      have hfin : ln (m - n) ≤ ln m := ln_mono (Nat.sub_le _ _)
      have HC := Hd.mk hc
      have HRN := Hd.mk hrn
      clear hput hv2 hc hrn hck
      go_wp2_with (first | (go_at_call 123; refine HC.out.mono ?_; rintro e w' ⟨rfl, rfl⟩))
      go_ret
      exact ⟨_, _, rfl, ⟨HRN.out, hfin, by omega⟩, HB.out⟩
end Go.Proofs.Ytcjcpfafalkceaa
