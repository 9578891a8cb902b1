/- Part 20 of the texts behind this claim. -/
import Derived.Test.YtcjcpfafalkceaaFq9
import Derived.Test.YtcjcpfafalkceaaFq12
import Derived.Test.YtcjcpfafalkceaaFq13
set_option linter.unusedVariables false
namespace Go.Proofs.Ytcjcpfafalkceaa
open Go.RowKit
theorem ln_word {d : Nat} (h : d < 4294967296) : ln d ≤ 1 := ln_le (by rw [Nat.pow_one]; exact h)
set_option maxRecDepth 100000 in
theorem rsmall_calls (A1 : Option Addr) (c1 m d : Nat) (w : World) (h1 : NN w A1 c1 m) (hd : d < 4294967296) (l1 : ln m ≤ 1073741824) :
    Calls Try.prog 129 #[.slice A1 (ln m) c1, .int .u32 (d : Int)] w (RetN (m * d) w) := by
  have HX := Hd.mk h1
  have hl := Hd.mk (ln_word hd)
  clear h1
  go_enter Try.func129, Try.ntmps129
  go_wp2_with fail
  refine (natural_calls d (by have := hl.out; omega) _).mono ?_
  rintro e w1 ⟨A2, c2, rfl, hn2, hb1⟩
  have HN2 := Hd.mk hn2
  have HB1 := Hd.mk hb1
  clear hn2 hb1
  go_wp2_with fail
  refine (rtimes_calls A1 c1 m A2 c2 d _ (HX.out.to HB1.out) HN2.out l1 (by have := hl.out; omega)).mono ?_
  rintro e w2 ⟨A3, c3, rfl, hn3, hb2⟩
  have HN3 := Hd.mk hn3
  have HB2 := Hd.mk hb2
  clear hn3 hb2
  go_wp2_with fail
  go_ret
  exact ⟨A3, c3, rfl, HN3.out, bel_then HB1.out HB2.out⟩
theorem halve {lo hi m r mid : Nat} (h : mid = (lo + hi) / 2) (hlt : lo + 1 < hi) : lo < mid ∧ mid < hi := by omega
theorem quot_of {lo m r : Nat} (h1 : lo * m ≤ r) (h2 : r < (lo + 1) * m) : r / m = lo := by
  have hm : 0 < m := by
    rcases Nat.eq_zero_or_pos m with h | h
    · subst h; omega
    · exact h
  apply Nat.le_antisymm
  · exact Nat.lt_succ_iff.1 ((Nat.div_lt_iff_lt_mul hm).2 h2)
  · exact (Nat.le_div_iff_mul_le hm).2 h1
theorem rlong_step {x R m Q : Nat} (hm : 0 < m) : x + B * (m * Q + R) = m * ((x + B * R) / m + B * Q) + (x + B * R) % m := by
  have := Nat.div_add_mod (x + B * R) m
  rw [Nat.mul_add m, Nat.mul_left_comm m B Q, Nat.mul_add B]
  omega
theorem cmpv_lt {m n : Nat} (h : m < n) : cmpv m n = -1 := if_pos h
theorem cmpv_ge {m n : Nat} (h : ¬ m < n) : 0 ≤ cmpv m n := by unfold cmpv; rw [if_neg h]; split <;> omega
theorem cmpv_le {m n : Nat} (h : m ≤ n) : cmpv m n ≤ 0 := by unfold cmpv; split; · omega
                                                             · rw [if_pos (by omega)]; omega
theorem cmpv_gt {m n : Nat} (h : n < m) : cmpv m n = 1 := by unfold cmpv; rw [if_neg (by omega), if_neg (by omega)]
def RetNew (n : Nat) (w : World) (e : Ending) (w' : World) : Prop := ∃ c, e = .returned (.slice (some ⟨w.heap.size, 0, none⟩) (ln n) c) ∧ NN w' (some ⟨w.heap.size, 0, none⟩) c n ∧ Below w.heap.size w w'
set_option maxRecDepth 100000 in
theorem rless_new (A1 : Option Addr) (c1 m : Nat) (A2 : Option Addr) (c2 n : Nat) (w : World) (h1 : NN w A1 c1 m) (h2 : NN w A2 c2 n) (hnm : n ≤ m) (l1 : ln m ≤ 1073741824) :
    Calls Try.prog 84 #[.slice A1 (ln m) c1, .slice A2 (ln n) c2] w (RetNew (m - n) w) := by
  have HX := Hd.mk h1
  have HY := Hd.mk h2
  clear h1 h2
  have hgt := ln_mono hnm
  have hmk := fun W => make_words 36 Try.underlying36 (ln m : Int) (ln m) (by omega) (by omega) W
  go_enter Try.func84, Try.ntmps84
  go_wp2
  clear hmk
  go_loopw [6, 14] (fun s6 s22 wr => ∃ (k cy : Nat) (ds : List Nat), k ≤ ln m ∧ s22 = .int .i64 k ∧ s6 = .int .u64 ((cy : Nat) : Int) ∧ cy ≤ 1 ∧ ds.length = k ∧ Dg ds ∧ val ds + val ((dig n).take k) = val ((dig m).take k) + B ^ k * cy ∧ Blk wr w.heap.size 72 (cells (ds ++ List.replicate (ln m - k) 0)) ∧ Below w.heap.size w wr) (fun _ s22 _ => ln m - (intOf s22).toNat)
  case atStart => exact ⟨0, 0, [], Nat.zero_le _, rfl, rfl, Nat.zero_le _, rfl, (fun x hx => by cases hx), by simp [val], heap_alloc_new w _, below_alloc (Below.refl _ _) _⟩
  case round =>
    obtain ⟨k, cy, ds, hk, rfl, rfl, hcy, hdl, hdd, hval, hblk, hbel⟩ := hrel
    have HV := Hd.mk hval
    have HK := Hd.mk hblk
    have HL := Hd.mk hdl
    have HB := Hd.mk hbel
    have HDD := Hd.mk hdd
    have hfz := hblk.frozen k
    have hck : k < ln m → _ := fun hh => hblk.at_ (i := k) (by simp; omega)
    clear hval hblk hdl hbel hdd
    by_cases hkl : k < ln m
    · have hck := hck hkl
      obtain ⟨a1, rfl, hcell1⟩ := (HX.out.to HB.out).at_ hkl
      obtain ⟨dx, hdx⟩ : ∃ dx, dx = (dig m).getD k 0 := ⟨_, rfl⟩
      have hdx1 : dx < 4294967296 := by rw [hdx]; exact dg_get (dg_dig _) k
      obtain ⟨dy, hdy⟩ : ∃ dy, dy = (dig n).getD k 0 := ⟨_, rfl⟩
      have hdy1 : dy < 4294967296 := by rw [hdy]; exact dg_get (dg_dig _) k
      rw [← hdx] at hcell1
      have hz := get_zero ds (ln m - k) k (by have := HL.out; omega)
      rw [hz] at hck
      have hrel' : val (ds ++ [(4294967296 + dx - dy - cy) % 4294967296]) + val ((dig n).take (k + 1)) = val ((dig m).take (k + 1)) + B ^ (k + 1) * (if dx < dy + cy then 1 else 0) := by
        rw [val_take_next, val_take_next, ← hdx, ← hdy]
        exact sub_step HL.out hdx1 hdy1 hcy HV.out
      have hput : Blk (wr.setCell ⟨w.heap.size, k, none⟩ (.int .u32 (((4294967296 + dx - dy - cy) % 4294967296 : Nat) : Int))) w.heap.size 72 (cells ((ds ++ [(4294967296 + dx - dy - cy) % 4294967296]) ++ List.replicate (ln m - (k + 1)) 0)) := by
        have := HK.out.put k ((4294967296 + dx - dy - cy) % 4294967296)
        rw [← HL.out, set_next ds _ _ (by have := HL.out; omega)] at this
        rw [← HL.out]
        exact this
      have hb1 : (if dx < dy + cy then 1 else 0 : Nat) ≤ 1 := by split <;> omega
      obtain ⟨bw, hbw⟩ : ∃ bw : Nat, bw = (if dx < dy + cy then 1 else 0 : Nat) := ⟨_, rfl⟩
      obtain ⟨dd, hddq⟩ : ∃ dd : Nat, dd = (4294967296 + dx - dy - cy) % 4294967296 := ⟨_, rfl⟩
      have hddl : dd < B := by rw [hddq]; exact Nat.mod_lt _ (by decide)
      rw [← hbw, ← hddq] at hrel'
      rw [← hddq] at hput
      rw [← hbw] at hb1
      have hhi := sub64_high2 dx dy cy hdx1 hdy1 hcy bw hbw
      have hlo := sub64_low2 dx cy dy dd (by omega)
      have hhi1 := fun h0 : dy = 0 => sub64_high1 dx cy hdx1 hcy bw (by rw [hbw, h0]; simp)
      have hlo1 := fun h0 : dy = 0 => sub64_low1 dx cy dd (by omega)
      have HR := Hd.mk hrel'
      have HP := Hd.mk hput
      have HDY := Hd.mk hdy
      clear hrel' hput hz hdx hbw hddq
      by_cases hkq : k < ln n
      · obtain ⟨a2, rfl, hcell2⟩ := (HY.out.to HB.out).at_ hkq
        rw [← hdy] at hcell2
        clear hdy
        clear hhi1 hlo1
        go_wp2_with fail
        go_roundw
        case rel => exact ⟨k + 1, bw, ds ++ [dd], by omega, by go_num, rfl, hb1, by rw [List.length_append, HL.out]; rfl, dg_append HDD.out (dg_one hddl), HR.out, HP.out, below_set HB.out (Nat.le_refl _) _⟩
        case measure => simp [intOf]; omega
      · have hdy0 : dy = 0 := by rw [hdy]; exact getD_zero_of_le (by unfold ln at hkq; omega)
        have hhi2 := hhi1 hdy0
        have hlo2 := hlo1 hdy0
        clear hdy hdy0 hhi hlo hhi1 hlo1
        go_wp2_with fail
        go_roundw
        case rel => exact ⟨k + 1, bw, ds ++ [dd], by omega, by go_num, rfl, hb1, by rw [List.length_append, HL.out]; rfl, dg_append HDD.out (dg_one hddl), HR.out, HP.out, below_set HB.out (Nat.le_refl _) _⟩
        case measure => simp [intOf]; omega
    · have hke : k = ln m := by omega
      subst hke
      have hv2 : val ds = m - n := by
        have h1 := HV.out
        rw [val_take_all (Nat.le_refl _), val_take_all hgt] at h1
        have h2 := val_lt HDD.out
        rw [HL.out] at h2
        rcases Nat.lt_or_ge cy 1 with h3 | h3
        · have : cy = 0 := by omega
          subst this
          simp at h1
          omega
        · have : cy = 1 := by omega
          subst this
          simp at h1
          omega
      have hput : Blk wr w.heap.size 72 (cells ds) := by
        have := HK.out
        simpa using this
      have hc := trim_calls (some ⟨w.heap.size, 0, none⟩) (ln m) ds _ hput.reads HDD.out (by have := HL.out; omega) (by omega)
      have hrn := hput.reads.of_take HDD.out
      rw [HL.out, hv2] at hc
      rw [hv2] at hrn
      have hfin : ln (m - n) ≤ ln m := ln_mono (Nat.sub_le _ _)
      have HC := Hd.mk hc
      have HRN := Hd.mk hrn
      clear hput hv2 hc hrn hck
      go_wp2_with (first | (go_at_call 123; refine HC.out.mono ?_; rintro e w' ⟨rfl, rfl⟩))
      go_ret
      exact ⟨_, rfl, ⟨HRN.out, hfin, by omega⟩, HB.out⟩
theorem NN.set_far {w : World} {g : Nat} {c n : Nat} (h : NN w (some ⟨g, 0, none⟩) c n) {p : Addr} (hp : p.block ≠ g) (u : Value) : NN (w.setCell p u) (some ⟨g, 0, none⟩) c n :=
  ⟨fun hn => by
    obtain ⟨ad, e, hc⟩ := h.1 hn
    refine ⟨ad, e, fun j hj => ?_⟩
    have hb : (ad.add j).block = g := by rw [block_add, ← Option.some.inj e]
    rw [World.cell?_setCell_far _ _ _ _ (by rw [hb]; exact hp)]
    exact hc j hj, h.2⟩
theorem getD_set_same (qs : List Nat) (k x : Nat) {j : Nat} (h : j ≠ k) : (qs.set k x).getD j 0 = qs.getD j 0 := getD_set_ne (Ne.symm h) x
set_option maxHeartbeats 2000000 in
set_option maxRecDepth 100000 in
theorem divided_calls (A1 : Option Addr) (c1 n : Nat) (A2 : Option Addr) (c2 m : Nat) (w : World) (h1 : NN w A1 c1 n) (h2 : NN w A2 c2 m) (hm0 : m ≠ 0) (l1 : ln n ≤ 268435456) (l2 : ln m ≤ 268435456) :
    Calls Try.prog 94 #[.slice A1 (ln n) c1, .slice A2 (ln m) c2] w (RetNN (n / m) (n % m) w) := by
  obtain ⟨i0, hi, hz0, hz1, hz2⟩ := info_parts Try.info_word
  have HX := Hd.mk h1
  have HY := Hd.mk h2
  have hmp : 0 < m := by omega
  clear h1 h2 hm0
  have hmk := fun W => make_words 36 Try.underlying36 (ln n : Int) (ln n) (by omega) (by omega) W
  go_enter Try.func94, Try.ntmps94
  go_wp2_with fail
  clear hmk
  go_loopw [7, 8] (fun s7 s8 wr => ∃ (k R : Nat) (qs : List Nat) (A : Option Addr) (c : Nat), k ≤ ln n ∧ s8 = .int .i64 ((k : Int) - 1) ∧ s7 = .slice A (ln R) c ∧ NN wr A c R ∧ R < m ∧ qs.length = ln n ∧ Dg qs ∧ val ((dig n).drop k) = m * val (qs.drop k) + R ∧ (∀ j, j < k → qs.getD j 0 = 0) ∧ Blk wr w.heap.size 72 (cells qs) ∧ Below w.heap.size w wr) (fun _ s _ => (intOf s + 1).toNat)
  case atStart => exact ⟨ln n, 0, List.replicate (ln n) 0, none, 0, Nat.le_refl _, rfl, by rw [ln_zero], NN.nil _ _ _ (by omega), hmp, by simp, dg_zeros _, by rw [List.drop_eq_nil_of_le (show (dig n).length ≤ ln n from Nat.le_refl _), List.drop_eq_nil_of_le (by simp)]; simp [val], fun j _ => getD_zeros _ _, heap_alloc_new w _, below_alloc (Below.refl _ _) _⟩
  case round =>
    obtain ⟨k, R, qs, A, c, hk, rfl, rfl, hnR, hRm, hql, hqd, hval, hqz, hblk, hbel⟩ := hrel
    have HV := Hd.mk hval
    have HK := Hd.mk hblk
    have HL := Hd.mk hql
    have HB := Hd.mk hbel
    have HDD := Hd.mk hqd
    have HR := Hd.mk hnR
    have HZ := Hd.mk hqz
    have hlR : ln R ≤ ln m := ln_mono (by omega)
    clear hval hblk hql hbel hqd hnR hqz
    rcases k with _ | k
    · have hv : n = m * val qs + R := by have := HV.out; rwa [List.drop_zero, List.drop_zero, val_dig] at this
      have hq : val qs = n / m := by rw [hv, Nat.mul_add_div hmp, Nat.div_eq_of_lt hRm]; omega
      have hr : R = n % m := by rw [hv, Nat.mul_add_mod, Nat.mod_eq_of_lt hRm]
      have hc := trim_calls (some ⟨w.heap.size, 0, none⟩) (ln n) qs _ HK.out.reads HDD.out (by have := HL.out; omega) (by omega)
      have hrn := HK.out.reads.of_take HDD.out
      rw [HL.out, hq] at hc
      rw [hq] at hrn
      have HC := Hd.mk hc
      have HN1 : Hd (NN wr (some ⟨w.heap.size, 0, none⟩) (ln n) (n / m)) := ⟨⟨hrn, ln_mono (Nat.div_le_self _ _), by omega⟩⟩
      rw [hr] at HR ⊢
      clear hv hq hc hrn hr
      go_wp2_with fail
      refine HC.out.mono ?_
      rintro e w' ⟨rfl, rfl⟩
      go_wp2_with fail
      go_ret2
      exact ⟨_, _, _, _, rfl, HN1.out, HR.out, HB.out⟩
    · obtain ⟨a1, rfl, hcell1⟩ := (HX.out.to HB.out).at_ (k := k) (by omega)
      obtain ⟨x, hx⟩ : ∃ x, x = (dig n).getD k 0 := ⟨_, rfl⟩
      have hx1 : x < 4294967296 := by rw [hx]; exact dg_get (dg_dig _) k
      rw [← hx] at hcell1
      have hd1 := val_drop_cons (xs := dig n) (k := k) (by unfold ln at hk; omega)
      rw [← hx, HV.out, rlong_step hmp] at hd1
      have HD1 := Hd.mk hd1
      have hRB : x + B * R < B * m := by
        have h1 : B * (R + 1) ≤ B * m := Nat.mul_le_mul_left _ hRm
        have h2 : B = 4294967296 := rfl
        rw [Nat.mul_add] at h1
        omega
      have e5 : ((k + 1 : Nat) : Int) - 1 = (k : Int) := by omega
      rw [e5]
      clear hd1 e5 hx
      have HRB := Hd.mk hRB
      clear hRB
      go_wp2_with (first | (at_builtin; refine wpList_append_any _ rfl (.tmp 26) (.tmp 27) 36 rfl wr.heap.size 72 i0 (.int .u32 0) 1 4 Try.underlying36 hi hz0 hz1 hz2 rfl (by decide) _ 1 (cells [x]) rfl (own_made (ds := [x]) (n := 1) (c := 1) (heap_alloc_new wr _) rfl (Nat.le_refl _) (by omega) (Nat.le_refl _)) _ A (ln R) c (cells (dig R)) rfl (HR.out.1.reads.alloc (Nat.le_refl _) _) (cells_one _) (by unfold maxLen; omega) (by omega) (by simp) ?_; intro v1 w1 hown1 hg1 hat1))
      have hb1 : Below wr.heap.size wr w1 := (below_alloc (Below.refl _ _) _).grown hg1 (by simp) (own_ge (own_made (w := wr.alloc (.cells (cells [x]).toArray 72)) (e := 72) (ds := [x]) (n := 1) (c := 1) (heap_alloc_new wr _) rfl (Nat.le_refl _) (by omega) (Nat.le_refl _)))
      have hown2 : w1.ownsRow wr.heap.size 72 1 v1 ([x] ++ dig R).length (cells ([x] ++ dig R)) := by
        have := hown1
        rw [← cells_append] at this
        rw [show ([x] ++ dig R).length = 1 + ln R from by simp [ln]; omega]
        exact this
      obtain ⟨A3, c3, hv3, hrn, hc3, hcm⟩ := own_slice hown2
      have hlen : ([x] ++ dig R).length = 1 + ln R := by simp [ln]; omega
      have hvx : val ([x] ++ dig R) = x + B * R := by show x + B * val (dig R) = _; rw [val_dig]
      have hdg : Dg ([x] ++ dig R) := dg_append (dg_one hx1) (dg_dig R)
      subst hv3
      have hT := trim_calls A3 c3 ([x] ++ dig R) w1 hrn hdg hc3 hcm
      have hrn2 := hrn.of_take hdg
      rw [hvx] at hT hrn2
      obtain ⟨R1, hR1⟩ : ∃ R1, R1 = x + B * R := ⟨_, rfl⟩
      have HRB2 : Hd (R1 < B * m) := ⟨by rw [hR1]; exact HRB.out⟩
      have hlR1 : ln R1 ≤ ln m + 2 := by
        have h1 := ln_mul B m
        have h2 : ln R1 ≤ ln (B * m) := ln_mono (by have := HRB2.out; omega)
        have h3 : ln B ≤ 2 := ln_le (by decide)
        omega
      have hlR2 : ln R1 ≤ c3 := by
        refine Nat.le_trans (ln_le ?_) hc3
        have := val_lt hdg
        rw [hvx, ← hR1] at this
        exact this
      rw [← hR1] at hT hrn2
      have HN3 : Hd (NN w1 A3 c3 R1) := ⟨⟨hrn2, hlR2, hcm⟩⟩
      have HT := Hd.mk hT
      have HD2 : Hd (val ((dig n).drop k) = m * (R1 / m + B * val (qs.drop (k + 1))) + R1 % m) := ⟨by rw [HD1.out, hR1]⟩
      rw [hlen]  at HT
      have HK1 : Hd (Blk w1 w.heap.size 72 (cells qs)) := ⟨HK.out.to hb1⟩
      have HB1 : Hd (Below w.heap.size w w1) := ⟨bel_then HB.out hb1⟩
      have hlc1 : ln m ≤ c2 := HY.out.2.1
      clear hown1 hown2 hg1 hat1 hb1 hrn hc3 hcm hlen hvx hdg hT hrn2 hR1 HD1 HRB HK HB HV HR hlR2
      rw [show ([x] ++ dig R).length = 1 + ln R from by simp [ln]; omega]
      go_wp2_with fail
      refine HT.out.mono ?_
      rintro e w' ⟨rfl, rfl⟩
      go_wp2_with fail
      refine (order_calls A3 c3 R1 A2 c2 m w1 HN3.out (HY.out.to HB1.out)).mono ?_
      rintro e w2 ⟨rfl, q2, rfl⟩
      by_cases hlt : R1 < m
      · rw [cmpv_lt hlt]
        go_wp2_with fail
        go_roundw
        case rel =>
          refine ⟨k, R1, qs, A3, c3, by omega, rfl, rfl, HN3.out.to (below_drewN (Below.refl _ _) _), hlt, HL.out, HDD.out, ?_, fun j hj => HZ.out j (by omega), HK1.out.to (below_drewN (Below.refl _ _) _), below_drewN HB1.out _⟩
          have h1 := HD2.out
          rw [Nat.div_eq_of_lt hlt, Nat.mod_eq_of_lt hlt] at h1
          rw [h1, val_drop_cons (xs := qs) (k := k) (by rw [HL.out]; omega), HZ.out k (by omega)]
        case measure => simp [intOf]
      · have hge := cmpv_ge hlt
        have HM := Hd.mk hlt
        obtain ⟨cv, hcv⟩ : ∃ cv, cv = cmpv R1 m := ⟨_, rfl⟩
        rw [← hcv] at hge ⊢
        clear hcv hlt
        have HN4 : Hd (NN (w1.drewN q2) A3 c3 R1) := ⟨HN3.out.to (below_drewN (Below.refl _ _) _)⟩
        have HK2 : Hd (Blk (w1.drewN q2) w.heap.size 72 (cells qs)) := ⟨HK1.out.to (below_drewN (Below.refl _ _) _)⟩
        have HB2 : Hd (Below w.heap.size w (w1.drewN q2)) := ⟨below_drewN HB1.out _⟩
        clear HN3 HK1 HB1 HT
        obtain ⟨wo, hwo⟩ : ∃ wo, wo = w1.drewN q2 := ⟨_, rfl⟩
        rw [← hwo] at HN4 HK2 HB2 ⊢
        clear hwo
        go_wp2_with fail
        go_loopw [9, 10] (fun s9 s10 wx => ∃ lo hi : Nat, s9 = .int .u64 (lo : Int) ∧ s10 = .int .u64 (hi : Int) ∧ 1 ≤ lo ∧ lo < hi ∧ hi ≤ 4294967296 ∧ m * lo ≤ R1 ∧ R1 < m * hi ∧ Below wo.heap.size wo wx) (fun s9 s10 _ => (intOf s10 - intOf s9).toNat)
        case atStart => exact ⟨1, 4294967296, rfl, rfl, Nat.le_refl _, by omega, Nat.le_refl _, by have := HM.out; omega, by have := HRB2.out; rw [Nat.mul_comm] at this; exact this, Below.refl _ _⟩
        case round =>
          obtain ⟨lo, hi', rfl, rfl, hlo1, hlohi, hhi, hlow, hhigh, hbx⟩ := hrel
          have HLO := Hd.mk hlow
          have HHI := Hd.mk hhigh
          have HBX := Hd.mk hbx
          clear hlow hhigh hbx
          by_cases hgt : lo + 1 < hi'
          · obtain ⟨mid, hmid⟩ : ∃ mid, mid = (lo + hi') / 2 := ⟨_, rfl⟩
            obtain ⟨hm1, hm2⟩ := halve (m := m) (r := R1) hmid hgt
            have hmI : ((lo : Int) + (hi' : Int)) / 2 = (mid : Int) := by rw [hmid]; omega
            have hmw : (mid : Int) % 4294967296 = (mid : Int) := by omega
            have hs := rsmall_calls A2 c2 m mid wr ((HY.out.to HB2.out).to HBX.out) (by omega) (by omega)
            have HS := Hd.mk hs
            clear hs hmid
            go_wp2_with fail
            refine HS.out.mono ?_
            rintro e w3 ⟨A5, c5, rfl, hn5, hb5⟩
            have HN5 := Hd.mk hn5
            have HB5 := Hd.mk hb5
            clear hn5 hb5
            go_wp2_with fail
            refine (order_calls A5 c5 (m * mid) A3 c3 R1 w3 HN5.out ((HN4.out.to HBX.out).to HB5.out)).mono ?_
            rintro e w4 ⟨rfl, q4, rfl⟩
            have HB6 : Hd (Below wo.heap.size wo (w3.drewN q4)) := ⟨below_drewN (bel_then HBX.out HB5.out) _⟩
            by_cases hle : m * mid ≤ R1
            · have hcl := cmpv_le hle
              have HLE := Hd.mk hle
              obtain ⟨cv, hcv⟩ : ∃ cv, cv = cmpv (m * mid) R1 := ⟨_, rfl⟩
              rw [← hcv] at hcl ⊢
              clear hcv hle
              go_wp2_with fail
              go_roundw
              case rel => exact ⟨mid, hi', rfl, rfl, by omega, hm2, hhi, HLE.out, HHI.out, HB6.out⟩
              case measure => simp [intOf]; omega
            · rw [cmpv_gt (by omega)]
              have HLE := Hd.mk hle
              clear hle
              go_wp2_with fail
              go_roundw
              case rel => exact ⟨lo, mid, rfl, rfl, hlo1, hm1, by omega, HLO.out, by have := HLE.out; omega, HB6.out⟩
              case measure => simp [intOf]; omega
          · have hhe : hi' = lo + 1 := by omega
            subst hhe
            have hq : R1 / m = lo := quot_of (by rw [Nat.mul_comm]; exact HLO.out) (by rw [Nat.mul_comm]; exact HHI.out)
            have hr : R1 % m = R1 - m * lo := by have := Nat.div_add_mod R1 m; rw [hq] at this; omega
            have hlw : (lo : Int) % 4294967296 = (lo : Int) := by omega
            have HRL : Hd (R1 - m * lo < m) := ⟨by rw [← hr]; exact Nat.mod_lt _ hmp⟩
            have hs := rsmall_calls A2 c2 m lo wr ((HY.out.to HB2.out).to HBX.out) (by omega) (by omega)
            have HS := Hd.mk hs
            have HD3 := HD2.out
            rw [hq, hr] at HD3
            have HD4 := Hd.mk HD3
            clear hs hq hr HD3 HD2
            go_wp2_with fail
            refine HS.out.mono ?_
            rintro e w3 ⟨A5, c5, rfl, hn5, hb5⟩
            have HN5 := Hd.mk hn5
            have HB5 := Hd.mk hb5
            clear hn5 hb5
            go_wp2_with fail
            refine (rless_new A3 c3 R1 A5 c5 (m * lo) w3 ((HN4.out.to HBX.out).to HB5.out) HN5.out HLO.out (by omega)).mono ?_
            rintro e w4 ⟨c6, rfl, hn6, hb6⟩
            have HN6 := Hd.mk hn6
            have HG3 : Hd (w.heap.size < w3.heap.size) := ⟨((HK2.out.to HBX.out).to HB5.out).lt⟩
            have hb7 : Below wo.heap.size wo w4 := bel_then (bel_then HBX.out HB5.out) hb6
            have HB7 := Hd.mk hb7
            have hk4 := HK2.out.to hb7
            have hck := hk4.at_ (i := k) (by have := HL.out; omega)
            have hfz := hk4.frozen k
            have HK4 := Hd.mk hk4
            have HB8 : Hd (Below w.heap.size w w4) := ⟨bel_then HB2.out hb7⟩
            clear hn6 hb6 hb7 hk4
            go_wp2_with fail
            go_roundw
            case rel =>
              refine ⟨k, R1 - m * lo, qs.set k lo, some ⟨w3.heap.size, 0, none⟩, c6, by omega, rfl, rfl, HN6.out.set_far (Nat.ne_of_lt HG3.out) _, HRL.out, by rw [List.length_set]; exact HL.out, dg_set HDD.out _ (by unfold B; omega), ?_, fun j hj => ?_, HK4.out.put k lo, below_set HB8.out (Nat.le_refl _) _⟩
              · rw [HD4.out, val_drop_set (xs := qs) (k := k) (by rw [HL.out]; omega)]
              · rw [getD_set_same _ _ _ (by omega)]
                exact HZ.out j (by omega)
            case measure => simp [intOf]
end Go.Proofs.Ytcjcpfafalkceaa
