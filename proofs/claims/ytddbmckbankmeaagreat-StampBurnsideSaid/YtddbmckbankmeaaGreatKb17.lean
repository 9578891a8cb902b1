/- Part 17 of the texts behind this claim. -/
import Derived.Test.YtddbmckbankmeaaGreatKb12
import Derived.Test.YtddbmckbankmeaaGreatKb14
import Derived.Test.YtddbmckbankmeaaGreatKb15
import Derived.Test.YtddbmckbankmeaaGreatKb16
set_option linter.unusedVariables false
namespace Go.Proofs.YtddbmckbankmeaaGreat.Ex
open Go.RowKit
theorem ln_word {d : Nat} (h : d < 4294967296) : ln d ≤ 1 := ln_le (by rw [Nat.pow_one]; exact h)
set_option maxRecDepth 100000 in
theorem rsmall_calls (A1 : Option Addr) (c1 m d : Nat) (w : World) (h1 : NN w A1 c1 m) (hd : d < 4294967296) (l1 : ln m ≤ 1073741824) :
  Calls Tryz.prog 125 #[.slice A1 (ln m) c1, .int .u32 (d : Int)] w (RetN (m * d) w) := by
 have HX := Hd.mk h1; have hl := Hd.mk (ln_word hd); clear h1; go_enter Tryz.func125, Tryz.ntmps125
 go_wp2_with fail
 refine (natural_calls d (by have := hl.out; omega) _).mono ?_; rintro e w1 ⟨A2, c2, rfl, hn2, hb1⟩; have HN2 := Hd.mk hn2; have HB1 := Hd.mk hb1; clear hn2 hb1; go_wp2_with fail
 refine (rtimes_calls A1 c1 m A2 c2 d _ (HX.out.to HB1.out) HN2.out l1 (by have := hl.out; omega)).mono ?_; rintro e w2 ⟨A3, c3, rfl, hn3, hb2⟩; have HN3 := Hd.mk hn3; have HB2 := Hd.mk hb2; clear hn3 hb2; go_wp2_with fail
 go_ret
 exact ⟨A3, c3, rfl, HN3.out, bel_then HB1.out HB2.out⟩
theorem halve {lo hi m r mid : Nat} (h : mid = (lo + hi) / 2) (hlt : lo + 1 < hi) : lo < mid ∧ mid < hi := by omega
theorem quot_of {lo m r : Nat} (h1 : lo * m ≤ r) (h2 : r < (lo + 1) * m) : r / m = lo := by
 have hm : 0 < m := by
  rcases Nat.eq_zero_or_pos m with h | h
  ·subst h; omega
  exact h
 apply Nat.le_antisymm
 ·exact Nat.lt_succ_iff.1 ((Nat.div_lt_iff_lt_mul hm).2 h2)
 exact (Nat.le_div_iff_mul_le hm).2 h1
theorem rlong_step {x R m Q : Nat} (hm : 0 < m) : x + B * (m * Q + R) = m * ((x + B * R) / m + B * Q) + (x + B * R) % m := by
 have := Nat.div_add_mod (x + B * R) m; rw [Nat.mul_add m, Nat.mul_left_comm m B Q, Nat.mul_add B]; omega
theorem cmpv_lt {m n : Nat} (h : m < n) : cmpv m n = -1 := if_pos h
theorem cmpv_ge {m n : Nat} (h : ¬ m < n) : 0 ≤ cmpv m n := by unfold cmpv; rw [if_neg h]; split <;> omega
theorem cmpv_le {m n : Nat} (h : m ≤ n) : cmpv m n ≤ 0 := by unfold cmpv; split; · omega
                                                             rw [if_pos (by omega)]; omega
theorem cmpv_gt {m n : Nat} (h : n < m) : cmpv m n = 1 := by unfold cmpv; rw [if_neg (by omega), if_neg (by omega)]
def RetNew (n : Nat) (w : World) (e : Ending) (w' : World) : Prop := ∃ c, e = .returned (.slice (some ⟨w.heap.size, 0, none⟩) (ln n) c) ∧ NN w' (some ⟨w.heap.size, 0, none⟩) c n ∧ Below w.heap.size w w'
set_option maxRecDepth 100000 in
theorem rless_new (A1 : Option Addr) (c1 m : Nat) (A2 : Option Addr) (c2 n : Nat) (w : World) (h1 : NN w A1 c1 m) (h2 : NN w A2 c2 n) (hnm : n ≤ m) (l1 : ln m ≤ 1073741824) :
  Calls Tryz.prog 81 #[.slice A1 (ln m) c1, .slice A2 (ln n) c2] w (RetNew (m - n) w) := by
 have HX := Hd.mk h1; have HY := Hd.mk h2; clear h1 h2; have hgt := ln_mono hnm; have hmk := fun W => make_words 48 Tryz.underlying48 (ln m : Int) (ln m) (by omega) (by omega) W
 go_enter Tryz.func81, Tryz.ntmps81
 go_wp2
 clear hmk; go_loopw [6, 14] (fun s6 s22 wr => ∃ (k cy : Nat) (ds : List Nat), k ≤ ln m ∧ s22 = .int .i64 k ∧ s6 = .int .u64 ((cy : Nat) : Int) ∧ cy ≤ 1 ∧ ds.length = k ∧ Dg ds ∧ val ds + val ((dig n).take k) = val ((dig m).take k) + B ^ k * cy ∧ Blk wr w.heap.size 123 (cells (ds ++ List.replicate (ln m - k) 0)) ∧ Below w.heap.size w wr) (fun _ s22 _ => ln m - (intOf s22).toNat)
 case atStart => exact ⟨0, 0, [], Nat.zero_le _, rfl, rfl, Nat.zero_le _, rfl, (fun x hx => by cases hx), by simp [val], heap_alloc_new w _, below_alloc (Below.refl _ _) _⟩
 case round =>
  obtain ⟨k, cy, ds, hk, rfl, rfl, hcy, hdl, hdd, hval, hblk, hbel⟩ := hrel; have HV := Hd.mk hval; have HK := Hd.mk hblk; have HL := Hd.mk hdl; have HB := Hd.mk hbel; have HDD := Hd.mk hdd; have hfz := hblk.frozen k; have hck : k < ln m → _ := fun hh => hblk.at_ (i := k) (by simp; omega)
  clear hval hblk hdl hbel hdd; by_cases hkl : k < ln m
  ·have hck := hck hkl; obtain ⟨a1, rfl, hcell1⟩ := (HX.out.to HB.out).at_ hkl; obtain ⟨dx, hdx⟩ : ∃ dx, dx = (dig m).getD k 0 := ⟨_, rfl⟩; have hdx1 : dx < 4294967296 := by rw [hdx]; exact dg_get (dg_dig _) k
   obtain ⟨dy, hdy⟩ : ∃ dy, dy = (dig n).getD k 0 := ⟨_, rfl⟩; have hdy1 : dy < 4294967296 := by rw [hdy]; exact dg_get (dg_dig _) k
   rw [← hdx] at hcell1; have hz := get_zero ds (ln m - k) k (by have := HL.out; omega); rw [hz] at hck
   have hrel' : val (ds ++ [(4294967296 + dx - dy - cy) % 4294967296]) + val ((dig n).take (k + 1)) = val ((dig m).take (k + 1)) + B ^ (k + 1) * (if dx < dy + cy then 1 else 0) := by
    rw [val_take_next, val_take_next, ← hdx, ← hdy]; exact sub_step HL.out hdx1 hdy1 hcy HV.out
   have hput : Blk (wr.setCell ⟨w.heap.size, k, none⟩ (.int .u32 (((4294967296 + dx - dy - cy) % 4294967296 : Nat) : Int))) w.heap.size 123 (cells ((ds ++ [(4294967296 + dx - dy - cy) % 4294967296]) ++ List.replicate (ln m - (k + 1)) 0)) := by
    have := HK.out.put k ((4294967296 + dx - dy - cy) % 4294967296); rw [← HL.out, set_next ds _ _ (by have := HL.out; omega)] at this; rw [← HL.out]; exact this
   have hb1 : (if dx < dy + cy then 1 else 0 : Nat) ≤ 1 := by split <;> omega
   obtain ⟨bw, hbw⟩ : ∃ bw : Nat, bw = (if dx < dy + cy then 1 else 0 : Nat) := ⟨_, rfl⟩; obtain ⟨dd, hddq⟩ : ∃ dd : Nat, dd = (4294967296 + dx - dy - cy) % 4294967296 := ⟨_, rfl⟩; have hddl : dd < B := by rw [hddq]; exact Nat.mod_lt _ (by decide)
   rw [← hbw, ← hddq] at hrel'; rw [← hddq] at hput; rw [← hbw] at hb1; have hhi := sub64_high2 dx dy cy hdx1 hdy1 hcy bw hbw; have hlo := sub64_low2 dx cy dy dd (by omega); have hhi1 := fun h0 : dy = 0 => sub64_high1 dx cy hdx1 hcy bw (by rw [hbw, h0]; simp)
   have hlo1 := fun h0 : dy = 0 => sub64_low1 dx cy dd (by omega)
   have HR := Hd.mk hrel'; have HP := Hd.mk hput; have HDY := Hd.mk hdy; clear hrel' hput hz hdx hbw hddq; by_cases hkq : k < ln n
   ·obtain ⟨a2, rfl, hcell2⟩ := (HY.out.to HB.out).at_ hkq; rw [← hdy] at hcell2; clear hdy; clear hhi1 hlo1; go_wp2_with fail
    go_roundw
    case rel => exact ⟨k + 1, bw, ds ++ [dd], by omega, by go_num, rfl, hb1, by rw [List.length_append, HL.out]; rfl, dg_append HDD.out (dg_one hddl), HR.out, HP.out, below_set HB.out (Nat.le_refl _) _⟩
    case measure => simp [intOf]; omega
   have hdy0 : dy = 0 := by rw [hdy]; exact getD_zero_of_le (by unfold ln at hkq; omega)
   have hhi2 := hhi1 hdy0; have hlo2 := hlo1 hdy0; clear hdy hdy0 hhi hlo hhi1 hlo1; go_wp2_with fail
   go_roundw
   case rel => exact ⟨k + 1, bw, ds ++ [dd], by omega, by go_num, rfl, hb1, by rw [List.length_append, HL.out]; rfl, dg_append HDD.out (dg_one hddl), HR.out, HP.out, below_set HB.out (Nat.le_refl _) _⟩
   case measure => simp [intOf]; omega
  have hke : k = ln m := by omega
  subst hke
  have hv2 : val ds = m - n := by
   have h1 := HV.out; rw [val_take_all (Nat.le_refl _), val_take_all hgt] at h1; have h2 := val_lt HDD.out; rw [HL.out] at h2; rcases Nat.lt_or_ge cy 1 with h3 | h3
   ·have : cy = 0 := by omega
    subst this; simp at h1; omega
   have : cy = 1 := by omega
   subst this; simp at h1; omega
  have hput : Blk wr w.heap.size 123 (cells ds) := by
   have := HK.out; simpa using this
  have hc := trim_calls (some ⟨w.heap.size, 0, none⟩) (ln m) ds _ hput.reads HDD.out (by have := HL.out; omega) (by omega); have hrn := hput.reads.of_take HDD.out; rw [HL.out, hv2] at hc; rw [hv2] at hrn; have hfin : ln (m - n) ≤ ln m := ln_mono (Nat.sub_le _ _); have HC := Hd.mk hc; have HRN := Hd.mk hrn; clear hput hv2 hc hrn hck; go_wp2_with (first | (go_at_call 101; refine HC.out.mono ?_; rintro e w' ⟨rfl, rfl⟩))
  go_ret
  exact ⟨_, rfl, ⟨HRN.out, hfin, by omega⟩, HB.out⟩
theorem NN.set_far {w : World} {g : Nat} {c n : Nat} (h : NN w (some ⟨g, 0, none⟩) c n) {p : Addr} (hp : p.block ≠ g) (u : Value) : NN (w.setCell p u) (some ⟨g, 0, none⟩) c n :=
 ⟨fun hn => by
  obtain ⟨ad, e, hc⟩ := h.1 hn; refine ⟨ad, e, fun j hj => ?_⟩; have hb : (ad.add j).block = g := by rw [block_add, ← Option.some.inj e]
  rw [World.cell?_setCell_far _ _ _ _ (by rw [hb]; exact hp)]
  exact hc j hj, h.2⟩
theorem getD_set_same (qs : List Nat) (k x : Nat) {j : Nat} (h : j ≠ k) : (qs.set k x).getD j 0 = qs.getD j 0 := getD_set_ne (Ne.symm h) x
set_option maxHeartbeats 2000000 in
set_option maxRecDepth 100000 in
theorem divided_calls (A1 : Option Addr) (c1 n : Nat) (A2 : Option Addr) (c2 m : Nat) (w : World) (h1 : NN w A1 c1 n) (h2 : NN w A2 c2 m) (hm0 : m ≠ 0) (l1 : ln n ≤ 268435456) (l2 : ln m ≤ 268435456) :
  Calls Tryz.prog 102 #[.slice A1 (ln n) c1, .slice A2 (ln m) c2] w (RetNN (n / m) (n % m) w) := by
 obtain ⟨i0, hi, hz0, hz1, hz2⟩ := info_parts Tryz.info_word; have HX := Hd.mk h1; have HY := Hd.mk h2; have hmp : 0 < m := by omega
 clear h1 h2 hm0; have hmk := fun W => make_words 48 Tryz.underlying48 (ln n : Int) (ln n) (by omega) (by omega) W
 go_enter Tryz.func102, Tryz.ntmps102
 go_wp2_with fail
 clear hmk; go_loopw [7, 8] (fun s7 s8 wr => ∃ (k R : Nat) (qs : List Nat) (A : Option Addr) (c : Nat), k ≤ ln n ∧ s8 = .int .i64 ((k : Int) - 1) ∧ s7 = .slice A (ln R) c ∧ NN wr A c R ∧ R < m ∧ qs.length = ln n ∧ Dg qs ∧ val ((dig n).drop k) = m * val (qs.drop k) + R ∧ (∀ j, j < k → qs.getD j 0 = 0) ∧ Blk wr w.heap.size 123 (cells qs) ∧ Below w.heap.size w wr) (fun _ s _ => (intOf s + 1).toNat)
 case atStart => exact ⟨ln n, 0, List.replicate (ln n) 0, none, 0, Nat.le_refl _, rfl, by rw [ln_zero], NN.nil _ _ _ (by omega), hmp, by simp, dg_zeros _, by rw [List.drop_eq_nil_of_le (show (dig n).length ≤ ln n from Nat.le_refl _), List.drop_eq_nil_of_le (by simp)]; simp [val], fun j _ => getD_zeros _ _, heap_alloc_new w _, below_alloc (Below.refl _ _) _⟩
 case round =>
  obtain ⟨k, R, qs, A, c, hk, rfl, rfl, hnR, hRm, hql, hqd, hval, hqz, hblk, hbel⟩ := hrel; have HV := Hd.mk hval; have HK := Hd.mk hblk; have HL := Hd.mk hql; have HB := Hd.mk hbel; have HDD := Hd.mk hqd; have HR := Hd.mk hnR; have HZ := Hd.mk hqz; have hlR : ln R ≤ ln m := ln_mono (by omega); clear hval hblk hql hbel hqd hnR hqz; rcases k with _ | k
  ·have hv : n = m * val qs + R := by have := HV.out; rwa [List.drop_zero, List.drop_zero, val_dig] at this
   have hq : val qs = n / m := by rw [hv, Nat.mul_add_div hmp, Nat.div_eq_of_lt hRm]; omega
   have hr : R = n % m := by rw [hv, Nat.mul_add_mod, Nat.mod_eq_of_lt hRm]
   have hc := trim_calls (some ⟨w.heap.size, 0, none⟩) (ln n) qs _ HK.out.reads HDD.out (by have := HL.out; omega) (by omega); have hrn := HK.out.reads.of_take HDD.out; rw [HL.out, hq] at hc; rw [hq] at hrn; have HC := Hd.mk hc; have HN1 : Hd (NN wr (some ⟨w.heap.size, 0, none⟩) (ln n) (n / m)) := ⟨⟨hrn, ln_mono (Nat.div_le_self _ _), by omega⟩⟩; rw [hr] at HR ⊢; clear hv hq hc hrn hr; go_wp2_with fail
   refine HC.out.mono ?_; rintro e w' ⟨rfl, rfl⟩; go_wp2_with fail
   go_ret2
   exact ⟨_, _, _, _, rfl, HN1.out, HR.out, HB.out⟩
  obtain ⟨a1, rfl, hcell1⟩ := (HX.out.to HB.out).at_ (k := k) (by omega); obtain ⟨x, hx⟩ : ∃ x, x = (dig n).getD k 0 := ⟨_, rfl⟩; have hx1 : x < 4294967296 := by rw [hx]; exact dg_get (dg_dig _) k
  rw [← hx] at hcell1; have hd1 := val_drop_cons (xs := dig n) (k := k) (by unfold ln at hk; omega); rw [← hx, HV.out, rlong_step hmp] at hd1; have HD1 := Hd.mk hd1
  have hRB : x + B * R < B * m := by
   have h1 : B * (R + 1) ≤ B * m := Nat.mul_le_mul_left _ hRm; have h2 : B = 4294967296 := rfl; rw [Nat.mul_add] at h1; omega
  have e5 : ((k + 1 : Nat) : Int) - 1 = (k : Int) := by omega
  rw [e5]; clear hd1 e5 hx; have HRB := Hd.mk hRB; clear hRB; go_wp2_with (first | (at_builtin; refine wpList_append_any _ rfl (.tmp 26) (.tmp 27) 48 rfl wr.heap.size 123 i0 (.int .u32 0) 1 4 Tryz.underlying48 hi hz0 hz1 hz2 rfl (by decide) _ 1 (cells [x]) rfl (own_made (ds := [x]) (n := 1) (c := 1) (heap_alloc_new wr _) rfl (Nat.le_refl _) (by omega) (Nat.le_refl _)) _ A (ln R) c (cells (dig R)) rfl (HR.out.1.reads.alloc (Nat.le_refl _) _) (cells_one _) (by unfold maxLen; omega) (by omega) (by simp) ?_; intro v1 w1 hown1 hg1 hat1))
  have hb1 : Below wr.heap.size wr w1 := (below_alloc (Below.refl _ _) _).grown hg1 (by simp) (own_ge (own_made (w := wr.alloc (.cells (cells [x]).toArray 123)) (e := 123) (ds := [x]) (n := 1) (c := 1) (heap_alloc_new wr _) rfl (Nat.le_refl _) (by omega) (Nat.le_refl _)))
  have hown2 : w1.ownsRow wr.heap.size 123 1 v1 ([x] ++ dig R).length (cells ([x] ++ dig R)) := by
   have := hown1; rw [← cells_append] at this; rw [show ([x] ++ dig R).length = 1 + ln R from by simp [ln]; omega]; exact this
  obtain ⟨A3, c3, hv3, hrn, hc3, hcm⟩ := own_slice hown2; have hlen : ([x] ++ dig R).length = 1 + ln R := by simp [ln]; omega
  have hvx : val ([x] ++ dig R) = x + B * R := by show x + B * val (dig R) = _; rw [val_dig]
  have hdg : Dg ([x] ++ dig R) := dg_append (dg_one hx1) (dg_dig R); subst hv3; have hT := trim_calls A3 c3 ([x] ++ dig R) w1 hrn hdg hc3 hcm; have hrn2 := hrn.of_take hdg; rw [hvx] at hT hrn2; obtain ⟨R1, hR1⟩ : ∃ R1, R1 = x + B * R := ⟨_, rfl⟩; have HRB2 : Hd (R1 < B * m) := ⟨by rw [hR1]; exact HRB.out⟩
  have hlR1 : ln R1 ≤ ln m + 2 := by
   have h1 := ln_mul B m; have h2 : ln R1 ≤ ln (B * m) := ln_mono (by have := HRB2.out; omega); have h3 : ln B ≤ 2 := ln_le (by decide); omega
  have hlR2 : ln R1 ≤ c3 := by
   refine Nat.le_trans (ln_le ?_) hc3; have := val_lt hdg; rw [hvx, ← hR1] at this; exact this
  rw [← hR1] at hT hrn2; have HN3 : Hd (NN w1 A3 c3 R1) := ⟨⟨hrn2, hlR2, hcm⟩⟩; have HT := Hd.mk hT; have HD2 : Hd (val ((dig n).drop k) = m * (R1 / m + B * val (qs.drop (k + 1))) + R1 % m) := ⟨by rw [HD1.out, hR1]⟩; rw [hlen]  at HT; have HK1 : Hd (Blk w1 w.heap.size 123 (cells qs)) := ⟨HK.out.to hb1⟩; have HB1 : Hd (Below w.heap.size w w1) := ⟨bel_then HB.out hb1⟩; have hlc1 : ln m ≤ c2 := HY.out.2.1; clear hown1 hown2 hg1 hat1 hb1 hrn hc3 hcm hlen hvx hdg hT hrn2 hR1 HD1 HRB HK HB HV HR hlR2; rw [show ([x] ++ dig R).length = 1 + ln R from by simp [ln]; omega]; go_wp2_with fail
  refine HT.out.mono ?_; rintro e w' ⟨rfl, rfl⟩; go_wp2_with fail
  refine (order_calls A3 c3 R1 A2 c2 m w1 HN3.out (HY.out.to HB1.out)).mono ?_; rintro e w2 ⟨rfl, q2, rfl⟩; by_cases hlt : R1 < m
  ·rw [cmpv_lt hlt]; go_wp2_with fail
   go_roundw
   case rel =>
    refine ⟨k, R1, qs, A3, c3, by omega, rfl, rfl, HN3.out.to (below_drewN (Below.refl _ _) _), hlt, HL.out, HDD.out, ?_, fun j hj => HZ.out j (by omega), HK1.out.to (below_drewN (Below.refl _ _) _), below_drewN HB1.out _⟩; have h1 := HD2.out; rw [Nat.div_eq_of_lt hlt, Nat.mod_eq_of_lt hlt] at h1; rw [h1, val_drop_cons (xs := qs) (k := k) (by rw [HL.out]; omega), HZ.out k (by omega)]
   case measure => simp [intOf]
  have hge := cmpv_ge hlt; have HM := Hd.mk hlt; obtain ⟨cv, hcv⟩ : ∃ cv, cv = cmpv R1 m := ⟨_, rfl⟩; rw [← hcv] at hge ⊢; clear hcv hlt; have HN4 : Hd (NN (w1.drewN q2) A3 c3 R1) := ⟨HN3.out.to (below_drewN (Below.refl _ _) _)⟩; have HK2 : Hd (Blk (w1.drewN q2) w.heap.size 123 (cells qs)) := ⟨HK1.out.to (below_drewN (Below.refl _ _) _)⟩; have HB2 : Hd (Below w.heap.size w (w1.drewN q2)) := ⟨below_drewN HB1.out _⟩; clear HN3 HK1 HB1 HT; obtain ⟨wo, hwo⟩ : ∃ wo, wo = w1.drewN q2 := ⟨_, rfl⟩; rw [← hwo] at HN4 HK2 HB2 ⊢; clear hwo; go_wp2_with fail
  go_loopw [9, 10] (fun s9 s10 wx => ∃ lo hi : Nat, s9 = .int .u64 (lo : Int) ∧ s10 = .int .u64 (hi : Int) ∧ 1 ≤ lo ∧ lo < hi ∧ hi ≤ 4294967296 ∧ m * lo ≤ R1 ∧ R1 < m * hi ∧ Below wo.heap.size wo wx) (fun s9 s10 _ => (intOf s10 - intOf s9).toNat)
  case atStart => exact ⟨1, 4294967296, rfl, rfl, Nat.le_refl _, by omega, Nat.le_refl _, by have := HM.out; omega, by have := HRB2.out; rw [Nat.mul_comm] at this; exact this, Below.refl _ _⟩
  case round =>
   obtain ⟨lo, hi', rfl, rfl, hlo1, hlohi, hhi, hlow, hhigh, hbx⟩ := hrel; have HLO := Hd.mk hlow; have HHI := Hd.mk hhigh; have HBX := Hd.mk hbx; clear hlow hhigh hbx; by_cases hgt : lo + 1 < hi'
   ·obtain ⟨mid, hmid⟩ : ∃ mid, mid = (lo + hi') / 2 := ⟨_, rfl⟩; obtain ⟨hm1, hm2⟩ := halve (m := m) (r := R1) hmid hgt; have hmI : ((lo : Int) + (hi' : Int)) / 2 = (mid : Int) := by rw [hmid]; omega
    have hmw : (mid : Int) % 4294967296 = (mid : Int) := by omega
    have hs := rsmall_calls A2 c2 m mid wr ((HY.out.to HB2.out).to HBX.out) (by omega) (by omega); have HS := Hd.mk hs; clear hs hmid; go_wp2_with fail
    refine HS.out.mono ?_; rintro e w3 ⟨A5, c5, rfl, hn5, hb5⟩; have HN5 := Hd.mk hn5; have HB5 := Hd.mk hb5; clear hn5 hb5; go_wp2_with fail
    refine (order_calls A5 c5 (m * mid) A3 c3 R1 w3 HN5.out ((HN4.out.to HBX.out).to HB5.out)).mono ?_; rintro e w4 ⟨rfl, q4, rfl⟩; have HB6 : Hd (Below wo.heap.size wo (w3.drewN q4)) := ⟨below_drewN (bel_then HBX.out HB5.out) _⟩; by_cases hle : m * mid ≤ R1
    ·have hcl := cmpv_le hle; have HLE := Hd.mk hle; obtain ⟨cv, hcv⟩ : ∃ cv, cv = cmpv (m * mid) R1 := ⟨_, rfl⟩; rw [← hcv] at hcl ⊢; clear hcv hle; go_wp2_with fail
     go_roundw
     case rel => exact ⟨mid, hi', rfl, rfl, by omega, hm2, hhi, HLE.out, HHI.out, HB6.out⟩
     case measure => simp [intOf]; omega
    rw [cmpv_gt (by omega)]; have HLE := Hd.mk hle; clear hle; go_wp2_with fail
    go_roundw
    case rel => exact ⟨lo, mid, rfl, rfl, hlo1, hm1, by omega, HLO.out, by have := HLE.out; omega, HB6.out⟩
    case measure => simp [intOf]; omega
   have hhe : hi' = lo + 1 := by omega
   subst hhe; have hq : R1 / m = lo := quot_of (by rw [Nat.mul_comm]; exact HLO.out) (by rw [Nat.mul_comm]; exact HHI.out); have hr : R1 % m = R1 - m * lo := by have := Nat.div_add_mod R1 m; rw [hq] at this; omega
   have hlw : (lo : Int) % 4294967296 = (lo : Int) := by omega
   have HRL : Hd (R1 - m * lo < m) := ⟨by rw [← hr]; exact Nat.mod_lt _ hmp⟩; have hs := rsmall_calls A2 c2 m lo wr ((HY.out.to HB2.out).to HBX.out) (by omega) (by omega); have HS := Hd.mk hs; have HD3 := HD2.out; rw [hq, hr] at HD3; have HD4 := Hd.mk HD3; clear hs hq hr HD3 HD2; go_wp2_with fail
   refine HS.out.mono ?_; rintro e w3 ⟨A5, c5, rfl, hn5, hb5⟩; have HN5 := Hd.mk hn5; have HB5 := Hd.mk hb5; clear hn5 hb5; go_wp2_with fail
   refine (rless_new A3 c3 R1 A5 c5 (m * lo) w3 ((HN4.out.to HBX.out).to HB5.out) HN5.out HLO.out (by omega)).mono ?_; rintro e w4 ⟨c6, rfl, hn6, hb6⟩; have HN6 := Hd.mk hn6; have HG3 : Hd (w.heap.size < w3.heap.size) := ⟨((HK2.out.to HBX.out).to HB5.out).lt⟩; have hb7 : Below wo.heap.size wo w4 := bel_then (bel_then HBX.out HB5.out) hb6; have HB7 := Hd.mk hb7; have hk4 := HK2.out.to hb7; have hck := hk4.at_ (i := k) (by have := HL.out; omega); have hfz := hk4.frozen k; have HK4 := Hd.mk hk4; have HB8 : Hd (Below w.heap.size w w4) := ⟨bel_then HB2.out hb7⟩; clear hn6 hb6 hb7 hk4; go_wp2_with fail
   go_roundw
   case rel =>
    refine ⟨k, R1 - m * lo, qs.set k lo, some ⟨w3.heap.size, 0, none⟩, c6, by omega, rfl, rfl, HN6.out.set_far (Nat.ne_of_lt HG3.out) _, HRL.out, by rw [List.length_set]; exact HL.out, dg_set HDD.out _ (by unfold B; omega), ?_, fun j hj => ?_, HK4.out.put k lo, below_set HB8.out (Nat.le_refl _) _⟩
    ·rw [HD4.out, val_drop_set (xs := qs) (k := k) (by rw [HL.out]; omega)]
    rw [getD_set_same _ _ _ (by omega)]; exact HZ.out j (by omega)
   case measure => simp [intOf]
set_option linter.unusedSimpArgs false
def zpow (x : Int) (n : Nat) : Int := x ^ n
theorem zpow_zero (x : Int) : zpow x 0 = 1 := Int.pow_zero x
theorem zpow_succ (x : Int) (n : Nat) : zpow x (n + 1) = zpow x n * x := Int.pow_succ x n
def RetPow (x : Int) (n most : Nat) (w : World) (e : Ending) (w' : World) : Prop := ∃ (z : Int) (ok : Bool) (A : Option Addr) (c : Nat), e = .returned (.tuple #[.agg #[.bool (decide (z < 0)), .slice A (ln z.natAbs) c], .bool ok]) ∧ NN w' A c z.natAbs ∧ Below w.heap.size w w' ∧
 (ok = true → z = zpow x n) ∧ (ok = false → most < ln (zpow x n).natAbs) ∧ ln z.natAbs ≤ most + ln x.natAbs + 1
theorem pow_small {x : Int} (h : x.natAbs ≤ 1) {n : Nat} (hn : 0 < n) : zpow x n = if x < 0 ∧ n % 2 = 0 then x * x else x := by
 unfold zpow; have hx : x = 0 ∨ x = 1 ∨ x = -1 := by omega
 rcases hx with rfl | rfl | rfl
 ·rw [if_neg (by omega), Int.zero_pow (by omega)]
 ·rw [if_neg (by omega), Int.one_pow]
 rcases Nat.mod_two_eq_zero_or_one n with h0 | h0
 ·rw [if_pos ⟨by omega, h0⟩]; obtain ⟨k, rfl⟩ : ∃ k, n = 2 * k := ⟨n / 2, by omega⟩; rw [Int.pow_mul, show (-1 : Int) ^ 2 = 1 from rfl, Int.one_pow]; rfl
 rw [if_neg (by omega)]; obtain ⟨k, rfl⟩ : ∃ k, n = 2 * k + 1 := ⟨n / 2, by omega⟩; rw [Int.pow_succ, Int.pow_mul, show (-1 : Int) ^ 2 = 1 from rfl, Int.one_pow]; rfl
theorem pow_grow {x : Int} (h : 1 < x.natAbs) {i n : Nat} (hi : i ≤ n) : ln (zpow x i).natAbs ≤ ln (zpow x n).natAbs := by
 unfold zpow; rw [Int.natAbs_pow, Int.natAbs_pow]; exact ln_mono (Nat.pow_le_pow_right (by omega) hi)
theorem small_one (w : World) : Calls Tryz.prog 92 #[.int .u64 1] w (Got w (isN 1).p) := (small_calls 1 (by decide) w).mono fun e w' h => h.got
set_option maxHeartbeats 200000 in
set_option maxRecDepth 100000 in
theorem power_calls (x : Int) (n most : Nat) (A1 : Option Addr) (c1 : Nat) (w : World) (h1 : NN w A1 c1 x.natAbs) (l1 : ln x.natAbs ≤ 1000) (ln_ : n ≤ 1000000) (lm : most ≤ 1000) :
  Calls Tryz.prog 58 #[.agg #[.bool (decide (x < 0)), .slice A1 (ln x.natAbs) c1], .int .i64 (n : Int), .int .i64 (most : Int)] w (RetPow x n most w) := by
 have H1 := Hd.mk h1; clear h1; obtain ⟨b1, hb1⟩ : ∃ b, b = decide (x < 0) := ⟨_, rfl⟩; have HB1 := Hd.mk hb1; rw [← hb1]; clear hb1; go_enter Tryz.func58, Tryz.ntmps58
 go_wp2_with fail
 obtain ⟨W0, hW0⟩ : ∃ W : World, W = (w.alloc (.cells #[.bool b1, .slice A1 (ln x.natAbs) c1] 100)).alloc (.cells #[.bool false, .slice none 0 0] 100) := ⟨_, rfl⟩; rw [← hW0]; obtain ⟨hX, hR, hbw⟩ := boxes2 hW0; have HW := Hd.mk hbw; have QX := Hd.mk hX; have QR := Hd.mk hR; have HNX := Hd.mk (H1.out.to hbw); clear hW0 hX hR hbw; refine (ofInt_calls 1 _ (by omega) (by omega)).mono ?_; rintro e w1 ⟨A2, c2, rfl, hn2, hb2⟩; go_wp2_with fail
 obtain ⟨W1, hW1⟩ : ∃ W : World, W = w1.alloc (.cells #[.bool false, .slice A2 (ln 1) c2] 100) := ⟨_, rfl⟩; rw [← hW1]; have HO1 : Hd (HZ W1 w1.heap.size 100 1) := ⟨by rw [hW1]; exact ⟨A2, c2, heap_alloc_new _ _, hn2.to (below_alloc (Below.refl _ _) _)⟩⟩; have HB : Hd (Below W0.heap.size W0 W1) := ⟨by rw [hW1]; exact below_alloc hb2 _⟩; have HG : Hd (W0.heap.size ≤ w1.heap.size) := ⟨hb2.size⟩; obtain ⟨g8, hg8⟩ : ∃ g, g = w1.heap.size := ⟨_, rfl⟩; rw [← hg8] at HO1 HG ⊢; clear hW1 hg8 hn2 hb2; have HSX : Hd (w.heap.size + 1 < W0.heap.size) := ⟨QR.out.lt⟩; have hln0 : ln x.natAbs ≤ 1000 := l1; go_loopw [1] (fun s1 wr => ∃ (k i : Nat), s1 = .int .i64 (k : Int) ∧ i + k = n ∧ (i = 0 ∨ 1 < x.natAbs) ∧ HZ wr g8 100 (zpow x i) ∧ ln (zpow x i).natAbs ≤ most + 1 ∧ Below W0.heap.size W0 wr) (fun s1 _ => (intOf s1).toNat)
 case atStart => exact ⟨n, 0, rfl, by omega, .inl rfl, by rw [zpow_zero]; exact HO1.out, by rw [zpow_zero]; have := ln_word (d := 1) (by omega); show ln 1 ≤ _; omega, HB.out⟩
 case round =>
  obtain ⟨k, i, rfl, hik, hi0, hz, hlz, hbel⟩ := hrel; have HIK := Hd.mk hik; have HI0 := Hd.mk hi0; have HBW := Hd.mk hbel; have HZI := Hd.mk hz; have hkl : k ≤ 1000000 := by omega
  clear hik hi0 hbel hz HO1 HB; by_cases hk : k = 0
  ·subst hk; have hin : i = n := by have := HIK.out; omega
   rw [hin] at HZI hlz; obtain ⟨A3, c3, hB3, hn3⟩ := HZI.out; have HN := Hd.mk hn3; have x0 := hB3.c0; have x1 := hB3.c1; have g0 := (QR.out.to HBW.out).c0; have g1 := (QR.out.to HBW.out).c1; have u0 := (QR.out.to HBW.out).f0; have u1 := (QR.out.to HBW.out).f1; clear hin HIK HI0 HZI hB3 hn3; go_wp2_with fail
   have HB := HBW; obtain ⟨k0, k1, k2⟩ := two_set g0 g1 (.bool (decide (zpow x n < 0))) (.slice A3 (ln (zpow x n).natAbs) c3); refine bodyPost_ret (v := .tuple #[.agg #[.bool (decide (zpow x n < 0)), .slice A3 (ln (zpow x n).natAbs) c3], .bool true]) (by simp [results, Tryz.results58, go_sem, k0, k1]) rfl ?_; exact ⟨zpow x n, true, A3, c3, rfl, ((HN.out.set_ g0 (by intro t; simp) _).set_ k2 (by intro t; simp) _), (by repeat (first | exact bel_then HW.out HB.out | refine below_set ?_ (by first | exact Nat.le_refl _ | omega | (simp; done) | (simp; omega)) _ | refine below_alloc ?_ _ | refine below_drewN ?_ _ | refine below_drew ?_)), fun _ => rfl, (fun h => by cases h), by omega⟩
  have hk0 : (0 : Int) < (k : Int) := by omega
  clear hk; go_wp2_with fail
  refine wp_region_vs 5 [14, 15, 16, 17, 18] [0, 4] [] 100 [.bool false, .slice none 0 0] [isV (.pointer (some ⟨w.heap.size, 1, none⟩)), isN x.natAbs, isN 1, qI (cmpv x.natAbs 1), isV (.bool (decide (cmpv x.natAbs 1 ≤ 0)))] (by kernel_rfl) (by kernel_rfl) (by kernel_rfl) (by rfl) alloc_whole (fun d v c a w h => by cases d <;> exact h) ?_ ?_
  ·intro j hj hA a wx hb hs hd
   have HX : HZ wx w.heap.size 100 x := by
    have := (QX.out.to (bel_then HBW.out hb)); rw [HB1.out] at this; exact ⟨_, _, this, HNX.out.to (bel_then HBW.out hb)⟩
   match j, hj, hA with
   | 0, _, _ => exact ⟨_, op_fieldW rfl (hs 3 rfl), rfl⟩ | 1, _, _ => exact op_magW rfl rfl (hd 0 rfl) HX | 2, _, _ => exact op_call1 rfl rfl Tryz.call92 (small_one wx) | 3, _, _ => exact op_call2 rfl rfl Tryz.call91 (n2 (fun A1 c1 A2 c2 h1 h2 => cmp_calls A1 c1 x.natAbs A2 c2 1 wx h1 h2) (fun e w' h => drew_got h) (hd 1 rfl) (hd 2 rfl)) | 4, _, _ => exact ⟨_, op_leq0 rfl (hd 3 rfl), rfl⟩ | j + 5, h, _ => omega
  intro vs wx hb hv hal hne; have e18 : vs 18 = .bool (decide (cmpv x.natAbs 1 ≤ 0)) := hv 4 (by decide) rfl; simp only [PA, e18]; have HBX : Hd (Below W0.heap.size W0 wx) := ⟨bel_then HBW.out hb⟩; have HZX := Hd.mk (HZI.out.to hb); clear hv hal hne e18 hb HBW HZI; have HB := HBX; have q0 := (QX.out.to HB.out).c0; have q1 := (QX.out.to HB.out).c1; have g0 := (QR.out.to HB.out).c0; have g1 := (QR.out.to HB.out).c1; have u0 := (QR.out.to HB.out).f0; have u1 := (QR.out.to HB.out).f1; have HNY := Hd.mk (HNX.out.to HB.out); by_cases hx1 : x.natAbs ≤ 1
  ·have hd1 : decide (cmpv x.natAbs 1 ≤ 0) = true := decide_eq_true (cmpv_le hx1); rw [hd1]; have hi : i = 0 := by rcases HI0.out with h | h <;> omega
   have hkn : k = n := by have := HIK.out; omega
   subst hkn; have hps := pow_small (x := x) hx1 (show 0 < k by omega); by_cases hneg : x < 0 ∧ k % 2 = 0
   ·have HPS : Hd (zpow x k = x * x) := ⟨by rw [hps, if_pos hneg]⟩; have hb1t : b1 = true := by rw [HB1.out]; exact decide_eq_true hneg.1
    have hk2 : ((k : Int) % 2 == 0) = true := by rw [beq_iff_eq]; omega
    have HM := Hd.mk (wmul_calls x x A1 c1 A1 c1 wx HNY.out HNY.out (by omega) (by omega)); rw [← HB1.out] at HM; subst hb1t
    have hlm : ln (x * x).natAbs ≤ ln x.natAbs + 1 := by
     rw [Int.natAbs_mul]; refine Nat.le_trans (ln_mul _ _) ?_; have : ln x.natAbs ≤ 1 := ln_word (by omega); omega
    clear hx1 hd1 hi hps hneg; go_wp2_with fail
    refine HM.out.mono ?_; rintro e w5 ⟨A5, c5, rfl, hn5, hb5⟩; have HN5 := Hd.mk hn5; replace HB := Hd.mk (bel_then HB.out hb5); clear hn5 hb5 q0 q1 g0 g1 u0 u1; have g0 := (QR.out.to HB.out).c0; have g1 := (QR.out.to HB.out).c1; have u0 := (QR.out.to HB.out).f0; have u1 := (QR.out.to HB.out).f1; obtain ⟨zz, hzz⟩ : ∃ z, z = x * x := ⟨_, rfl⟩; rw [← hzz] at HPS HN5 hlm ⊢; clear hzz; go_wp2_with fail
    obtain ⟨k0, k1, k2⟩ := two_set g0 g1 (.bool (decide (zz < 0))) (.slice A5 (ln zz.natAbs) c5); refine bodyPost_ret (v := .tuple #[.agg #[.bool (decide (zz < 0)), .slice A5 (ln zz.natAbs) c5], .bool true]) (by simp [results, Tryz.results58, go_sem, k0, k1]) rfl ?_; exact ⟨zz, true, A5, c5, rfl, ((HN5.out.set_ g0 (by intro t; simp) _).set_ k2 (by intro t; simp) _), (by repeat (first | exact bel_then HW.out HB.out | refine below_set ?_ (by first | exact Nat.le_refl _ | omega | (simp; done) | (simp; omega)) _ | refine below_alloc ?_ _ | refine below_drewN ?_ _ | refine below_drew ?_)), fun _ => HPS.out.symm, (fun h => by cases h), by omega⟩
   have HPS : Hd (zpow x k = x) := ⟨by rw [hps, if_neg hneg]⟩
   have hk2 : b1 = true → ((k : Int) % 2 == 0) = false := fun h => by
    rw [beq_eq_false_iff_ne]; have : x < 0 := by rw [h] at HB1; exact of_decide_eq_true HB1.out.symm
    omega
   clear hx1 hd1 hi hps hneg; rcases b1 with _ | _
   ·clear hk2; go_wp2_with fail
    obtain ⟨k0, k1, k2⟩ := two_set g0 g1 (.bool false) (.slice A1 (ln x.natAbs) c1); refine bodyPost_ret (v := .tuple #[.agg #[.bool false, .slice A1 (ln x.natAbs) c1], .bool true]) (by simp [results, Tryz.results58, go_sem, k0, k1]) rfl ?_; exact ⟨x, true, A1, c1, by rw [← HB1.out], ((HNY.out.set_ g0 (by intro t; simp) _).set_ k2 (by intro t; simp) _), (by repeat (first | exact bel_then HW.out HB.out | refine below_set ?_ (by first | exact Nat.le_refl _ | omega | (simp; done) | (simp; omega)) _ | refine below_alloc ?_ _ | refine below_drewN ?_ _ | refine below_drew ?_)), fun _ => HPS.out.symm, (fun h => by cases h), by omega⟩
   have hk2 := hk2 rfl; go_wp2_with fail
   obtain ⟨k0, k1, k2⟩ := two_set g0 g1 (.bool true) (.slice A1 (ln x.natAbs) c1); refine bodyPost_ret (v := .tuple #[.agg #[.bool true, .slice A1 (ln x.natAbs) c1], .bool true]) (by simp [results, Tryz.results58, go_sem, k0, k1]) rfl ?_; exact ⟨x, true, A1, c1, by rw [← HB1.out], ((HNY.out.set_ g0 (by intro t; simp) _).set_ k2 (by intro t; simp) _), (by repeat (first | exact bel_then HW.out HB.out | refine below_set ?_ (by first | exact Nat.le_refl _ | omega | (simp; done) | (simp; omega)) _ | refine below_alloc ?_ _ | refine below_drewN ?_ _ | refine below_drew ?_)), fun _ => HPS.out.symm, (fun h => by cases h), by omega⟩
  have hd1 : decide (cmpv x.natAbs 1 ≤ 0) = false := decide_eq_false (by rw [cmpv_gt (by omega)]; omega); rw [hd1]; have HX1 : Hd (1 < x.natAbs) := ⟨by omega⟩; obtain ⟨A3, c3, hB3, hn3⟩ := HZX.out; have HN3 := Hd.mk hn3; have HB3 := Hd.mk hB3; have x0 := hB3.c0; have x1 := hB3.c1; have HM := Hd.mk (wmul_calls (zpow x i) x A3 c3 A1 c1 wx hn3 HNY.out (by omega) (by omega)); rw [← HB1.out, ← zpow_succ] at HM; clear hx1 hd1 hB3 hn3 HZX; go_wp2_with fail
  refine HM.out.mono ?_; rintro e w5 ⟨A5, c5, rfl, hn5, hb5⟩; have HK5 := Hd.mk (HB3.out.to hb5); have HN5 := Hd.mk hn5; replace HB := Hd.mk (bel_then HB.out hb5); clear HB3 HN3 q0 q1 x0 x1 g0 g1 u0 u1 hb5
  have hlz5 : ln (zpow x (i + 1)).natAbs ≤ most + 1 + ln x.natAbs := by
   rw [zpow_succ, Int.natAbs_mul]; exact Nat.le_trans (ln_mul _ _) (by omega)
  have x0 := HK5.out.c0; have x1 := HK5.out.c1; have y0 := HK5.out.f0; have y1 := HK5.out.f1; obtain ⟨zz, hzz⟩ : ∃ z, z = zpow x (i + 1) := ⟨_, rfl⟩; have HZZ := Hd.mk hzz; rw [← hzz] at HN5 hn5 hlz5 ⊢; clear hzz hlz; go_upto_region 9 with fail
  obtain ⟨W9, hW9⟩ : ∃ W, W = put2 w5 g8 (.bool (decide (zz < 0))) (.slice A5 (ln zz.natAbs) c5) := ⟨_, rfl⟩; unfold put2 at hW9; rw [← hW9]; have HZ9 : Hd (HZ W9 g8 100 zz) := ⟨by rw [hW9]; exact HZ.set ⟨_, _, _, _, HK5.out⟩ HN5.out⟩; have hb9 : Below W0.heap.size W0 W9 := by rw [hW9]; exact below_put2 HB.out HG.out
  have hn9 : NN W9 A5 c5 zz.natAbs := by rw [hW9]; exact nn_put2 HN5.out HK5.out
  have hk9 : Blk W9 g8 100 [.bool (decide (zz < 0)), .slice A5 (ln zz.natAbs) c5] := by rw [hW9]; exact blk_put2 HK5.out
  clear hW9 HK5 HN5 x0 x1 y0 y1 hn5; have HB9 := Hd.mk hb9; have HN9 := Hd.mk hn9; have x0 := hk9.c0; have x1 := hk9.c1; clear hk9 hb9 hn9 HB; have HB := HB9; clear HB9; by_cases hmo : most < ln zz.natAbs
  ·have hmo' : decide (most < ln zz.natAbs) = true := decide_eq_true hmo; have HMO := Hd.mk hmo; have HLE : Hd (ln zz.natAbs ≤ ln (zpow x n).natAbs) := ⟨by rw [HZZ.out]; exact pow_grow HX1.out (by have := HIK.out; omega)⟩; have g0 := (QR.out.to HB.out).c0; have g1 := (QR.out.to HB.out).c1; have u0 := (QR.out.to HB.out).f0; have u1 := (QR.out.to HB.out).f1; clear hmo; go_wp2_with fail
   obtain ⟨k0, k1, k2⟩ := two_set g0 g1 (.bool (decide (zz < 0))) (.slice A5 (ln zz.natAbs) c5); refine bodyPost_ret (v := .tuple #[.agg #[.bool (decide (zz < 0)), .slice A5 (ln zz.natAbs) c5], .bool false]) (by simp [results, Tryz.results58, go_sem, k0, k1]) rfl ?_; exact ⟨zz, false, A5, c5, rfl, ((HN9.out.set_ g0 (by intro t; simp) _).set_ k2 (by intro t; simp) _), (by repeat (first | exact bel_then HW.out HB.out | refine below_set ?_ (by first | exact Nat.le_refl _ | omega | (simp; done) | (simp; omega)) _ | refine below_alloc ?_ _ | refine below_drewN ?_ _ | refine below_drew ?_)), (fun h => by cases h), fun _ => Nat.lt_of_lt_of_le HMO.out HLE.out, by omega⟩
  have hmo' : decide (most < ln zz.natAbs) = false := decide_eq_false hmo; have hki : i + 1 + (k - 1) = n := by have := HIK.out; omega
  have HKI := Hd.mk hki; clear hki; go_wp2_with fail
  go_roundw
  case rel => exact ⟨k - 1, i + 1, by congr 1; omega, HKI.out, .inr HX1.out, by rw [← HZZ.out]; exact HZ9.out, by rw [← HZZ.out]; omega, HB.out⟩
  case measure => simp [intOf]; omega
def powz (x : Raw) (k : Int) : Int := if x.ok = true ∧ 0 ≤ k ∧ k ≤ 10000 then fitz (zpow x.val k.toNat) else 0
def powe (x : Raw) (k : Int) : Int := if x.ok = true ∧ 0 ≤ k ∧ k ≤ 10000 then fite (zpow x.val k.toNat) else 2
set_option maxHeartbeats 2000000 in
set_option maxRecDepth 100000 in
theorem Pow_calls (x : Raw) (k : Int) (w : World) (hx : x.at_ w) :
  Calls Tryz.prog 24 #[x.v, .int .i64 k] w (RetZE (powz x k) (powe x k) w) := by
 have HV := Hd.mk (fun g W (h : Below w.heap.size w W) (hB : Blk W g 25 [.bool x.neg, .slice x.A x.xs.length x.c]) => valid_calls [x] g 1 W (raws_one h hx hB) rfl (by omega)); rw [all_one] at HV; unfold powz powe; by_cases hall : x.ok = true ∧ 0 ≤ k ∧ k ≤ 10000
 ·rw [if_pos hall, if_pos hall]; obtain ⟨hok, hk1, hk2⟩ := hall; rw [hok] at HV; have hl := Raw.ok_len hok hx.2.1; have hN := Raw.nn hok hx; obtain ⟨K, hK⟩ : ∃ K : Nat, k = (K : Int) := ⟨k.toNat, by omega⟩; subst hK; rw [Int.toNat_natCast]; have HP := Hd.mk (fun W (hW : Below w.heap.size w W) => power_calls x.val K 256 x.A x.c W (hN.to hW) (by omega) (by omega) (by omega)); rw [← (Raw.num hok hx.2.1).1] at HP; obtain ⟨zv, hzv⟩ : ∃ z, z = x.val := ⟨_, rfl⟩; rw [← hzv] at HP hl ⊢; obtain ⟨zz, hzz⟩ : ∃ z, z = zpow zv K := ⟨_, rfl⟩; rw [← hzz]; have HZZ := Hd.mk hzz; unfold Raw.v at HP ⊢; obtain ⟨neg, A1, c1, xs⟩ := x; simp only at HV HP ⊢; obtain ⟨n1, hn1⟩ : ∃ n, n = xs.length := ⟨_, rfl⟩; rw [← hn1] at HV HP ⊢; clear hx hok hN hn1 hzv hzz; rw [show ((256 : Nat) : Int) = 256 from rfl] at HP; go_enter Tryz.func24, Tryz.ntmps24
  go_wp2_with fail
  obtain ⟨W0, hW0⟩ : ∃ W : World, W = (w.alloc (.cells #[.bool neg, .slice A1 n1 c1] 25)).alloc (.cells #[.bool false, .slice none 0 0] 25) := ⟨_, rfl⟩; rw [← hW0]; have HSZ : Hd (w.heap.size + 1 + 1 = W0.heap.size) := ⟨by rw [hW0]; simp⟩; obtain ⟨hB0, hB1, hBW⟩ := boxes2 hW0; have q0 := hB0.c0; have q1 := hB0.c1; have g0 := hB1.c0; have g1 := hB1.c1; have u0 := hB1.f0; have u1 := hB1.f1; have Q0 := Hd.mk hB0; have QR := Hd.mk hB1; have HW := Hd.mk hBW; have HB : Hd (Below W0.heap.size W0 W0) := ⟨Below.refl _ _⟩; clear hB0 hB1 hBW hW0; refine (HV.out _ _ (bel_then HW.out (by repeat (first | exact HB.out | exact Below.refl _ _ | refine below_alloc ?_ _ | refine below_drewN ?_ _ | refine below_drew ?_ | refine below_set ?_ (by first | exact Nat.le_refl _ | omega | (simp; done) | (simp; omega)) _))) (blk_new HSZ.out _ _)).mono ?_; rintro e w1 ⟨rfl, hb1⟩; have HB' : Hd (Below W0.heap.size W0 _) := ⟨bel_then (by repeat (first | exact HB.out | exact Below.refl _ _ | refine below_alloc ?_ _ | refine below_drewN ?_ _ | refine below_drew ?_ | refine below_set ?_ (by first | exact Nat.le_refl _ | omega | (simp; done) | (simp; omega)) _)) hb1⟩; clear HB; have HB := HB'; clear HB' hb1; replace q0 := (Q0.out.to HB.out).c0; replace q1 := (Q0.out.to HB.out).c1; replace g0 := (QR.out.to HB.out).c0; replace g1 := (QR.out.to HB.out).c1; replace u0 := (QR.out.to HB.out).f0; replace u1 := (QR.out.to HB.out).f1; go_wp2_with fail
  refine (of_calls _ _ _ _ _).mono ?_; rintro e w2 ⟨rfl, hb1⟩; have HB' : Hd (Below W0.heap.size W0 _) := ⟨bel_then (by repeat (first | exact HB.out | exact Below.refl _ _ | refine below_alloc ?_ _ | refine below_drewN ?_ _ | refine below_drew ?_ | refine below_set ?_ (by first | exact Nat.le_refl _ | omega | (simp; done) | (simp; omega)) _)) hb1⟩; clear HB; have HB := HB'; clear HB' hb1; replace q0 := (Q0.out.to HB.out).c0; replace q1 := (Q0.out.to HB.out).c1; replace g0 := (QR.out.to HB.out).c0; replace g1 := (QR.out.to HB.out).c1; replace u0 := (QR.out.to HB.out).f0; replace u1 := (QR.out.to HB.out).f1; go_wp2_with fail
  refine (HP.out _ (bel_then HW.out HB.out)).mono ?_; rintro e w3 ⟨z, ok, A3, c3, rfl, hn3, hb3, ho1, ho2, hlz⟩; have HN3 := Hd.mk hn3; have HO1 := Hd.mk ho1; have HO2 := Hd.mk ho2; clear hn3 ho1 ho2; have HB' : Hd (Below W0.heap.size W0 _) := ⟨bel_then (by repeat (first | exact HB.out | exact Below.refl _ _ | refine below_alloc ?_ _ | refine below_drewN ?_ _ | refine below_drew ?_ | refine below_set ?_ (by first | exact Nat.le_refl _ | omega | (simp; done) | (simp; omega)) _)) hb3⟩; clear HB; have HB := HB'; clear HB' hb3; replace q0 := (Q0.out.to HB.out).c0; replace q1 := (Q0.out.to HB.out).c1; replace g0 := (QR.out.to HB.out).c0; replace g1 := (QR.out.to HB.out).c1; replace u0 := (QR.out.to HB.out).f0; replace u1 := (QR.out.to HB.out).f1; rcases ok with _ | _
  ·have hbig := HO2.out rfl; rw [← HZZ.out] at hbig; have HF1 : Hd (fitz zz = 0) := ⟨by unfold fitz; rw [if_neg (by omega)]⟩; have HF2 : Hd (fite zz = 5) := ⟨by unfold fite; rw [if_neg (by omega)]⟩; have HB' : Hd (Below W0.heap.size W0 (w3.alloc (.cells #[.bool (decide (z < 0)), .slice A3 (ln z.natAbs) c3] 100))) := ⟨HB.out.alloc HB.out.size _⟩; have hz1 : w.heap.size + 1 < w3.heap.size := by have h1 := HB.out.size; have h2 := HSZ.out; omega
   clear hbig; go_upto_region 5 with fail
   obtain ⟨W4, hW4⟩ : ∃ W, W = w3.alloc (.cells #[.bool (decide (z < 0)), .slice A3 (ln z.natAbs) c3] 100) := ⟨_, rfl⟩; rw [← hW4] at HB' ⊢; clear HB hW4; have HB := HB'; clear HB' hz1 q0 q1 g0 g1 u0 u1; have g0 := (QR.out.to HB.out).c0; have g1 := (QR.out.to HB.out).c1; have u0 := (QR.out.to HB.out).f0; have u1 := (QR.out.to HB.out).f1; go_wp2_with fail
   obtain ⟨k0, k1, k2⟩ := two_set g0 g1 (.bool false) (.slice none 0 0); refine bodyPost_ret (v := .tuple #[.agg #[.bool false, .slice none 0 0], .int .i64 5]) (by simp [results, Tryz.results24, go_sem, k0, k1]) rfl ?_; have nsz := HSZ.out; rw [HF1.out, HF2.out]; exact ⟨none, 0, by rw [show ln (Int.natAbs 0) = 0 from ln_zero]; rfl, NN.nil _ _ _ (by omega), (by repeat (first | exact bel_then HW.out HB.out | refine below_set ?_ (by first | exact Nat.le_refl _ | omega | (simp; done) | (simp; omega)) _ | refine below_alloc ?_ _ | refine below_drewN ?_ _ | refine below_drew ?_))⟩
  have hz := HO1.out rfl; rw [← HZZ.out] at hz; have HF := Hd.mk (fun W (hW : Below w3.heap.size w3 W) => fits_calls z A3 c3 W (HN3.out.to hW) (by omega)); rw [hz] at HF; have HZE := Hd.mk hz; clear hz; obtain ⟨f1, hf1⟩ : ∃ f, f = fitz zz := ⟨_, rfl⟩; obtain ⟨f2, hf2⟩ : ∃ f, f = fite zz := ⟨_, rfl⟩; have HF1 := Hd.mk hf1; have HF2 := Hd.mk hf2; have hz1 : w.heap.size + 1 < w3.heap.size := by have h1 := HB.out.size; have h2 := HSZ.out; omega
  rw [HZE.out]; clear hf1 hf2; go_wp2_with fail
  refine (HF.out _ (below_alloc (Below.refl _ _) _)).mono ?_; rintro e w5 ⟨A5, c5, rfl, hn5, hb5⟩; have HN5 := Hd.mk hn5; have HB' : Hd (Below W0.heap.size W0 w5) := ⟨bel_then (HB.out.alloc HB.out.size _) hb5⟩; clear HB hn5 hb5 hz1 q0 q1 g0 g1 u0 u1; have HB := HB'; clear HB'; have g0 := (QR.out.to HB.out).c0; have g1 := (QR.out.to HB.out).c1; have u0 := (QR.out.to HB.out).f0; have u1 := (QR.out.to HB.out).f1; rw [← HF1.out] at HN5 ⊢; rw [← HF2.out]; go_wp2_with fail
  obtain ⟨k0, k1, k2⟩ := two_set g0 g1 (.bool (decide (f1 < 0))) (.slice A5 (ln (f1).natAbs) c5); refine bodyPost_ret (v := .tuple #[.agg #[.bool (decide (f1 < 0)), .slice A5 (ln (f1).natAbs) c5], .int .i64 f2]) (by simp [results, Tryz.results24, go_sem, k0, k1]) rfl ?_; have nsz := HSZ.out; exact ⟨A5, c5, by rw [← HF1.out, ← HF2.out], by rw [← HF1.out]; exact (HN5.out.set_ g0 (by intro t; simp) _).set_ k2 (by intro t; simp) _, (by repeat (first | exact bel_then HW.out HB.out | refine below_set ?_ (by first | exact Nat.le_refl _ | omega | (simp; done) | (simp; omega)) _ | refine below_alloc ?_ _ | refine below_drewN ?_ _ | refine below_drew ?_))⟩
 rw [if_neg hall, if_neg hall]; unfold Raw.v; obtain ⟨neg, A1, c1, xs⟩ := x; by_cases hok : Raw.ok ⟨neg, A1, c1, xs⟩ = true
 ·rw [hok] at HV; simp only at HV hall ⊢; obtain ⟨n1, hn1⟩ : ∃ n, n = xs.length := ⟨_, rfl⟩; rw [← hn1] at HV ⊢; clear hn1; by_cases hk1 : k < 0
  ·clear hall hok hx; go_enter Tryz.func24, Tryz.ntmps24
   go_wp2_with fail
   obtain ⟨W0, hW0⟩ : ∃ W : World, W = (w.alloc (.cells #[.bool neg, .slice A1 n1 c1] 25)).alloc (.cells #[.bool false, .slice none 0 0] 25) := ⟨_, rfl⟩; rw [← hW0]; have HSZ : Hd (w.heap.size + 1 + 1 = W0.heap.size) := ⟨by rw [hW0]; simp⟩; obtain ⟨hB0, hB1, hBW⟩ := boxes2 hW0; have q0 := hB0.c0; have q1 := hB0.c1; have g0 := hB1.c0; have g1 := hB1.c1; have u0 := hB1.f0; have u1 := hB1.f1; have Q0 := Hd.mk hB0; have QR := Hd.mk hB1; have HW := Hd.mk hBW; have HB : Hd (Below W0.heap.size W0 W0) := ⟨Below.refl _ _⟩; clear hB0 hB1 hBW hW0; refine (HV.out _ _ (bel_then HW.out (by repeat (first | exact HB.out | exact Below.refl _ _ | refine below_alloc ?_ _ | refine below_drewN ?_ _ | refine below_drew ?_ | refine below_set ?_ (by first | exact Nat.le_refl _ | omega | (simp; done) | (simp; omega)) _))) (blk_new HSZ.out _ _)).mono ?_; rintro e w1 ⟨rfl, hb1⟩; have HB' : Hd (Below W0.heap.size W0 _) := ⟨bel_then (by repeat (first | exact HB.out | exact Below.refl _ _ | refine below_alloc ?_ _ | refine below_drewN ?_ _ | refine below_drew ?_ | refine below_set ?_ (by first | exact Nat.le_refl _ | omega | (simp; done) | (simp; omega)) _)) hb1⟩; clear HB; have HB := HB'; clear HB' hb1; replace q0 := (Q0.out.to HB.out).c0; replace q1 := (Q0.out.to HB.out).c1; replace g0 := (QR.out.to HB.out).c0; replace g1 := (QR.out.to HB.out).c1; replace u0 := (QR.out.to HB.out).f0; replace u1 := (QR.out.to HB.out).f1; go_wp2_with fail
   obtain ⟨k0, k1, k2⟩ := two_set g0 g1 (.bool false) (.slice none 0 0); refine bodyPost_ret (v := .tuple #[.agg #[.bool false, .slice none 0 0], .int .i64 2]) (by simp [results, Tryz.results24, go_sem, k0, k1]) rfl ?_; have nsz := HSZ.out; exact ⟨none, 0, by rw [show ln (Int.natAbs 0) = 0 from ln_zero]; rfl, NN.nil _ _ _ (by omega), (by repeat (first | exact bel_then HW.out HB.out | refine below_set ?_ (by first | exact Nat.le_refl _ | omega | (simp; done) | (simp; omega)) _ | refine below_alloc ?_ _ | refine below_drewN ?_ _ | refine below_drew ?_))⟩
  have hk2 : 10000 < k := by
   rcases Int.lt_or_le 10000 k with h | h
   ·exact h
   exact absurd ⟨hok, by omega, h⟩ hall
  clear hall hok hx; go_enter Tryz.func24, Tryz.ntmps24
  go_wp2_with fail
  obtain ⟨W0, hW0⟩ : ∃ W : World, W = (w.alloc (.cells #[.bool neg, .slice A1 n1 c1] 25)).alloc (.cells #[.bool false, .slice none 0 0] 25) := ⟨_, rfl⟩; rw [← hW0]; have HSZ : Hd (w.heap.size + 1 + 1 = W0.heap.size) := ⟨by rw [hW0]; simp⟩; obtain ⟨hB0, hB1, hBW⟩ := boxes2 hW0; have q0 := hB0.c0; have q1 := hB0.c1; have g0 := hB1.c0; have g1 := hB1.c1; have u0 := hB1.f0; have u1 := hB1.f1; have Q0 := Hd.mk hB0; have QR := Hd.mk hB1; have HW := Hd.mk hBW; have HB : Hd (Below W0.heap.size W0 W0) := ⟨Below.refl _ _⟩; clear hB0 hB1 hBW hW0; refine (HV.out _ _ (bel_then HW.out (by repeat (first | exact HB.out | exact Below.refl _ _ | refine below_alloc ?_ _ | refine below_drewN ?_ _ | refine below_drew ?_ | refine below_set ?_ (by first | exact Nat.le_refl _ | omega | (simp; done) | (simp; omega)) _))) (blk_new HSZ.out _ _)).mono ?_; rintro e w1 ⟨rfl, hb1⟩; have HB' : Hd (Below W0.heap.size W0 _) := ⟨bel_then (by repeat (first | exact HB.out | exact Below.refl _ _ | refine below_alloc ?_ _ | refine below_drewN ?_ _ | refine below_drew ?_ | refine below_set ?_ (by first | exact Nat.le_refl _ | omega | (simp; done) | (simp; omega)) _)) hb1⟩; clear HB; have HB := HB'; clear HB' hb1; replace q0 := (Q0.out.to HB.out).c0; replace q1 := (Q0.out.to HB.out).c1; replace g0 := (QR.out.to HB.out).c0; replace g1 := (QR.out.to HB.out).c1; replace u0 := (QR.out.to HB.out).f0; replace u1 := (QR.out.to HB.out).f1; go_wp2_with fail
  obtain ⟨k0, k1, k2⟩ := two_set g0 g1 (.bool false) (.slice none 0 0); refine bodyPost_ret (v := .tuple #[.agg #[.bool false, .slice none 0 0], .int .i64 2]) (by simp [results, Tryz.results24, go_sem, k0, k1]) rfl ?_; have nsz := HSZ.out; exact ⟨none, 0, by rw [show ln (Int.natAbs 0) = 0 from ln_zero]; rfl, NN.nil _ _ _ (by omega), (by repeat (first | exact bel_then HW.out HB.out | refine below_set ?_ (by first | exact Nat.le_refl _ | omega | (simp; done) | (simp; omega)) _ | refine below_alloc ?_ _ | refine below_drewN ?_ _ | refine below_drew ?_))⟩
 have hno : Raw.ok ⟨neg, A1, c1, xs⟩ = false := by simpa using hok
 rw [hno] at HV; simp only at HV ⊢; obtain ⟨n1, hn1⟩ : ∃ n, n = xs.length := ⟨_, rfl⟩; rw [← hn1] at HV ⊢; clear hn1 hall hok hno hx; go_enter Tryz.func24, Tryz.ntmps24
 go_wp2_with fail
 obtain ⟨W0, hW0⟩ : ∃ W : World, W = (w.alloc (.cells #[.bool neg, .slice A1 n1 c1] 25)).alloc (.cells #[.bool false, .slice none 0 0] 25) := ⟨_, rfl⟩; rw [← hW0]; have HSZ : Hd (w.heap.size + 1 + 1 = W0.heap.size) := ⟨by rw [hW0]; simp⟩; obtain ⟨hB0, hB1, hBW⟩ := boxes2 hW0; have q0 := hB0.c0; have q1 := hB0.c1; have g0 := hB1.c0; have g1 := hB1.c1; have u0 := hB1.f0; have u1 := hB1.f1; have Q0 := Hd.mk hB0; have QR := Hd.mk hB1; have HW := Hd.mk hBW; have HB : Hd (Below W0.heap.size W0 W0) := ⟨Below.refl _ _⟩; clear hB0 hB1 hBW hW0; refine (HV.out _ _ (bel_then HW.out (by repeat (first | exact HB.out | exact Below.refl _ _ | refine below_alloc ?_ _ | refine below_drewN ?_ _ | refine below_drew ?_ | refine below_set ?_ (by first | exact Nat.le_refl _ | omega | (simp; done) | (simp; omega)) _))) (blk_new HSZ.out _ _)).mono ?_; rintro e w1 ⟨rfl, hb1⟩; have HB' : Hd (Below W0.heap.size W0 _) := ⟨bel_then (by repeat (first | exact HB.out | exact Below.refl _ _ | refine below_alloc ?_ _ | refine below_drewN ?_ _ | refine below_drew ?_ | refine below_set ?_ (by first | exact Nat.le_refl _ | omega | (simp; done) | (simp; omega)) _)) hb1⟩; clear HB; have HB := HB'; clear HB' hb1; replace q0 := (Q0.out.to HB.out).c0; replace q1 := (Q0.out.to HB.out).c1; replace g0 := (QR.out.to HB.out).c0; replace g1 := (QR.out.to HB.out).c1; replace u0 := (QR.out.to HB.out).f0; replace u1 := (QR.out.to HB.out).f1; go_wp2_with fail
 obtain ⟨k0, k1, k2⟩ := two_set g0 g1 (.bool false) (.slice none 0 0); refine bodyPost_ret (v := .tuple #[.agg #[.bool false, .slice none 0 0], .int .i64 2]) (by simp [results, Tryz.results24, go_sem, k0, k1]) rfl ?_; have nsz := HSZ.out; exact ⟨none, 0, by rw [show ln (Int.natAbs 0) = 0 from ln_zero]; rfl, NN.nil _ _ _ (by omega), (by repeat (first | exact bel_then HW.out HB.out | refine below_set ?_ (by first | exact Nat.le_refl _ | omega | (simp; done) | (simp; omega)) _ | refine below_alloc ?_ _ | refine below_drewN ?_ _ | refine below_drew ?_))⟩
end Go.Proofs.YtddbmckbankmeaaGreat.Ex
