/- Part 15 of the texts behind this claim. -/
import Derived.Test.YtcjcpfafalkceaaFq13
import Derived.Test.YtcjcpfafalkceaaFq14
set_option linter.unusedVariables false
namespace Go.Proofs.Ytcjcpfafalkceaa
open Go.RowKit
theorem shr_digit (n k s : Nat) (hs : s < 32) : ((dig n).getD k 0 + (dig n).getD (k + 1) 0 * 4294967296) / 2 ^ s % 4294967296 = n / 2 ^ s / B ^ k % 4294967296 := by
  obtain ⟨h1, h2⟩ := pow_r hs
  rw [dig_getD, dig_getD, Nat.div_div_eq_div_mul n, Nat.mul_comm (2 ^ s) (B ^ k), ← Nat.div_div_eq_div_mul n, Nat.pow_succ, ← Nat.div_div_eq_div_mul n]
  generalize n / B ^ k = m
  show (m % 4294967296 + m / 4294967296 % 4294967296 * 4294967296) / 2 ^ s % 4294967296 = m / 2 ^ s % 4294967296
  have e : m = (m % 4294967296 + m / 4294967296 % 4294967296 * 4294967296) + 2 ^ s * (2 ^ (32 - s) * 4294967296 * (m / 4294967296 / 4294967296)) := by
    rw [← Nat.mul_assoc, ← Nat.mul_assoc, h1]
    omega
  conv => rhs; rw [e]
  rw [Nat.add_mul_div_left _ _ h2, Nat.mul_assoc, Nat.mul_left_comm, Nat.add_mul_mod_self_left]
set_option maxHeartbeats 1000000 in
set_option maxRecDepth 100000 in
theorem shr_calls (A1 : Option Addr) (c1 n s : Nat) (w : World) (h1 : NN w A1 c1 n) (l1 : ln n ≤ 536870912) (hs : s < 32) :
    Calls Try.prog 128 #[.slice A1 (ln n) c1, .int .i64 (s : Int)] w (RetN (n / 2 ^ s) w) := by
  have HX := Hd.mk h1
  have hlc := h1.2.1
  have hcm := h1.2.2
  clear h1
  have hsq : (s : Int) / 32 = 0 := by omega
  have hsr : (s : Int) % 32 = (s : Int) := by omega
  by_cases h0 : n = 0
  · subst h0
    rw [ln_zero, Nat.zero_div]
    go_enter Try.func128, Try.ntmps128
    go_wp2
    go_ret
    exact ⟨none, 0, by rw [ln_zero]; rfl, NN.nil _ _ _ (by omega), Below.refl _ _⟩
  · have hlp : 0 < ln n := ln_pos.2 (by omega)
    have hl0 : ¬ ln n = 0 := by omega
    have hc0 : ¬ c1 = 0 := by omega
    obtain ⟨ad, rfl, _⟩ := HX.out.at_ hlp
    have hmk := fun W => make_words 68 Try.underlying68 (ln n : Int) (ln n) (by omega) (by omega) W
    clear h0
    go_enter Try.func128, Try.ntmps128
    go_wp2
    clear hmk
    go_loopw [22] (fun s22 wr => ∃ (k : Nat) (ds : List Nat), k ≤ ln n ∧ s22 = .int .i64 k ∧ ds.length = k ∧ Dg ds ∧ val ds = n / 2 ^ s % B ^ k ∧ Blk wr w.heap.size 72 (cells (ds ++ List.replicate (ln n - k) 0)) ∧ Below w.heap.size w wr) (fun s _ => ln n - (intOf s).toNat)
    case atStart => exact ⟨0, [], Nat.zero_le _, rfl, rfl, (fun x hx => by cases hx), by simp [val, Nat.mod_one], heap_alloc_new w _, below_alloc (Below.refl _ _) _⟩
    case round =>
      obtain ⟨k, ds, hk, rfl, hdl, hdd, hval, hblk, hbel⟩ := hrel
      have HV := Hd.mk hval
      have HK := Hd.mk hblk
      have HL := Hd.mk hdl
      have HB := Hd.mk hbel
      have HDD := Hd.mk hdd
      clear hval hblk hdl hbel hdd
      by_cases hkl : k < ln n
      · obtain ⟨a1, ha1, hcell1⟩ := (HX.out.to HB.out).at_ hkl
        cases ha1
        obtain ⟨x, hx⟩ : ∃ x, x = (dig n).getD k 0 := ⟨_, rfl⟩
        have hx1 : x < 4294967296 := by rw [hx]; exact dg_get (dg_dig _) k
        rw [← hx] at hcell1
        obtain ⟨y, hy⟩ : ∃ y, y = (dig n).getD (k + 1) 0 := ⟨_, rfl⟩
        have hy1 : y < 4294967296 := by rw [hy]; exact dg_get (dg_dig _) _
        have hck := HK.out.at_ (i := k) (by rw [List.length_append, HL.out, List.length_replicate]; omega)
        have hfz := HK.out.frozen k
        have hsd := shr_digit n k s hs
        rw [← hx, ← hy] at hsd
        obtain ⟨t, ht⟩ : ∃ t, t = x + y * 4294967296 := ⟨_, rfl⟩
        rw [← ht] at hsd
        obtain ⟨t2, ht2⟩ : ∃ t2, t2 = t / 2 ^ s := ⟨_, rfl⟩
        have ht2l : t2 ≤ t := by rw [ht2]; exact Nat.div_le_self _ _
        rw [← ht2] at hsd
        obtain ⟨d, hd⟩ : ∃ d, d = t2 % 4294967296 := ⟨_, rfl⟩
        have hdl : d < B := by rw [hd]; exact Nat.mod_lt _ (by decide)
        have hput := HK.out.put k d
        rw [show k = ds.length from HL.out.symm, set_next ds _ _ (by have := HL.out; omega), HL.out] at hput
        have hnew : val (ds ++ [d]) = n / 2 ^ s % B ^ (k + 1) := by
          rw [val_snoc, HL.out, HV.out, Nat.mod_pow_succ, hd, hsd]
          rfl
        have e0 : bits .or .u64 (x : Int) ((y : Int) * 4294967296) = (t : Int) := by
          rw [or_words x y hx1 hy1, ht, Nat.mul_comm]
        have e1 : (t : Int) / 2 ^ s = (t2 : Int) := by
          rw [ht2]
          simp
        have e2 : (t2 : Int) % 4294967296 = (d : Int) := by omega
        have hyt : (y : Int) * 4294967296 ≤ 18446744073709551615 := by omega
        have htl : t ≤ 18446744073709551615 := by omega
        have HN := Hd.mk hnew
        have HP := Hd.mk hput
        have HXT := Hd.mk (show k + 1 ≥ ln n → t = x by intro h; rw [ht, hy, getD_zero_of_le (by rw [dig_length]; exact h)]; omega)
        by_cases hk1 : k + 1 < ln n
        · obtain ⟨a2, ha2, hcell2⟩ := (HX.out.to HB.out).at_ hk1
          cases ha2
          rw [← hy] at hcell2
          simp only [Addr.add_succ'] at hcell2
          have hk1' : (k : Int) + 1 < (ln n : Int) := by omega
          clear hx hy ht ht2 hd hsd hput hnew
          go_wp2_with fail
          go_roundw
          case rel => exact ⟨k + 1, ds ++ [d], by omega, by go_num, by rw [List.length_append, HL.out]; rfl, dg_append HDD.out (dg_one hdl), HN.out, by rw [Nat.sub_add_eq]; exact HP.out, below_set HB.out (Nat.le_refl _) _⟩
          case measure => simp [intOf]; omega
        · have htx := HXT.out (by omega)
          have hk1' : ¬ (k : Int) + 1 < (ln n : Int) := by omega
          have e1' : (x : Int) / 2 ^ s = (t2 : Int) := by rw [← htx]; exact e1
          clear hx hy ht ht2 hd hsd hput hnew e0 e1 htx HXT
          go_wp2_with fail
          go_roundw
          case rel => exact ⟨k + 1, ds ++ [d], by omega, by go_num, by rw [List.length_append, HL.out]; rfl, dg_append HDD.out (dg_one hdl), HN.out, by rw [Nat.sub_add_eq]; exact HP.out, below_set HB.out (Nat.le_refl _) _⟩
          case measure => simp [intOf]; omega
      · have hke : k = ln n := by omega
        subst hke
        have hv2 : val ds = n / 2 ^ s := by
          rw [HV.out, Nat.mod_eq_of_lt (Nat.lt_of_le_of_lt (Nat.div_le_self _ _) (lt_pow_ln n))]
        have hblk : Blk wr w.heap.size 72 (cells ds) := by
          have := HK.out
          rwa [Nat.sub_self, List.replicate_zero, List.append_nil] at this
        have hc := norm_calls (some ⟨w.heap.size, 0, none⟩) (ln n) ds _ hblk.reads HDD.out (by have := HL.out; omega) (by omega)
        have hrn := hblk.reads.of_take HDD.out
        rw [HL.out, hv2] at hc
        rw [hv2] at hrn
        have hfin : ln (n / 2 ^ s) ≤ ln n := ln_mono (Nat.div_le_self _ _)
        have HC := Hd.mk hc
        have HRN := Hd.mk hrn
        clear hv2 hc hrn hblk
        go_wp2_with (first | (go_at_call 121; refine HC.out.mono ?_; rintro e w' ⟨rfl, rfl⟩))
        go_ret
        exact ⟨_, _, rfl, ⟨HRN.out, hfin, by omega⟩, HB.out⟩
end Go.Proofs.Ytcjcpfafalkceaa
set_option linter.unusedVariables false
namespace Go.Proofs.Ytcjcpfafalkceaa
open Go.RowKit
theorem run_min2_int (k k' : IntKind) (x y : Int) : Builtin.min2 (.int k x) (.int k' y) = pure (.int k (if y < x then y else x)) := by simp only [Builtin.min2]
theorem run_min_two (ats : Array TypeId) (ty : TypeId) (a b : Value) : Builtin.min_ ats ty #[a, b] = (Builtin.min2 a b >>= fun s => pure s) := by simp only [Builtin.min_, List.foldlM_cons, List.foldlM_nil]
theorem Blk.readsP {w : World} {g : Nat} {t : TypeId} {us : List Nat} {post : List Value} (h : Blk w g t (cells us ++ post)) : RN w (some ⟨g, 0, none⟩) us := fun _ => ⟨_, rfl, fun j hj => by
  have := h.cell j
  rw [List.getElem?_append_left (by rw [cells_length]; exact hj), cells_get us hj] at this
  rw [← this]
  have e : (⟨g, 0, none⟩ : Addr).add j = ⟨g, j, none⟩ := by
    unfold Addr.add
    split
    · next h => rw [h]
    · simp
  rw [e]⟩
theorem Blk.atP {w : World} {g : Nat} {t : TypeId} {us : List Nat} {post : List Value} (h : Blk w g t (cells us ++ post)) {i : Nat} (hi : i < us.length) : w.cell? ⟨g, i, none⟩ = some (.int .u32 ((us.getD i 0 : Nat) : Int)) := by
  rw [h.cell, List.getElem?_append_left (by rw [cells_length]; exact hi), cells_get us hi]
theorem own_block {w : World} {base : Nat} {e : TypeId} {v : Value} {n : Nat} {xs : List Value} (h : w.ownsRow base e 1 v n xs) (hn : 0 < n) : ∃ g cap post, v = .slice (some ⟨g, 0, none⟩) n cap ∧ base ≤ g ∧ n ≤ cap ∧ cap ≤ 9223372036854775807 ∧ Blk w g e (xs ++ post) ∧ g < w.heap.size := by
  rcases h.2 with ⟨rfl, h0⟩ | ⟨g, cap, cur, rfl, hg, hh, hnc, hcm, hcs, htk⟩
  · omega
  · have hb : Blk w g e (xs ++ cur.toList.drop n) := by
      have e1 : xs ++ cur.toList.drop n = cur.toList := by
        rw [← htk, Nat.mul_one, List.take_append_drop]
      unfold Blk
      rw [e1]
      simpa using hh
    exact ⟨g, cap, cur.toList.drop n, rfl, hg, hnc, by unfold maxLen at hcm; omega, hb, hb.lt⟩
theorem long_begin {a b y s : Nat} (hy : y = (dig b).getD (ln b - 1) 0) (hb : b ≠ 0) (hs : s = 32 - nbits y) (hab : ln b ≤ ln a) :
    y < 4294967296 ∧ 1 ≤ nbits y ∧ nbits y ≤ 32 ∧ b * 2 ^ s < B ^ ln b ∧ ln (b * 2 ^ s) = ln b ∧ a * 2 ^ s < (b * 2 ^ s) * B ^ (ln a - ln b + 1) ∧ ln (a * 2 ^ s) ≤ ln a + 1 ∧ ln a ≤ ln (a * 2 ^ s) ∧ 0 < b * 2 ^ s := by
  have hlp : 0 < ln b := ln_pos.2 (by omega)
  have hyl : y < 4294967296 := by rw [hy]; exact dg_get (dg_dig b) _
  have hy0 : y ≠ 0 := by rw [hy]; exact dig_last b _ (by rw [dig_length]; omega)
  have h1 : nbits y ≤ 32 := nbits_le.2 hyl
  have h0 : 1 ≤ nbits y := by unfold nbits; rw [if_neg hy0]; omega
  have hhi := nbits_hi y
  have hlo := nbits_lo hy0
  have e32 : 2 ^ nbits y * 2 ^ s = 4294967296 := by
    rw [← Nat.pow_add, hs, show nbits y + (32 - nbits y) = 32 from by omega]
  have e31 : 2 ^ (nbits y - 1) * 2 ^ s = 2147483648 := by
    rw [← Nat.pow_add, hs, show nbits y - 1 + (32 - nbits y) = 31 from by omega]
  have hsp : 0 < 2 ^ s := Nat.pow_pos (by decide)
  have hs31 : 2 ^ s ≤ 2147483648 := by
    have : 2 ^ s ≤ 2 ^ 31 := Nat.pow_le_pow_right (by decide) (by omega)
    simpa using this
  have hbv : b = val ((dig b).take (ln b - 1)) + B ^ (ln b - 1) * y := by
    have h2 := val_take_next (dig b) (ln b - 1)
    rw [show ln b - 1 + 1 = ln b from by omega, List.take_of_length_le (show (dig b).length ≤ ln b from Nat.le_refl _), val_dig, ← hy] at h2
    exact h2
  have hbt := val_lt (dg_take (dg_dig b) (ln b - 1))
  rw [List.length_take, Nat.min_eq_left (by rw [dig_length]; omega)] at hbt
  have eB : B ^ ln b = B ^ (ln b - 1) * 4294967296 := by
    rw [show (4294967296 : Nat) = B from rfl, ← Nat.pow_succ]
    congr 1
    omega
  have hv1 : b * 2 ^ s < B ^ ln b := by
    have h2 : b < B ^ (ln b - 1) * (y + 1) := by rw [Nat.mul_add]; omega
    have h3 : b * 2 ^ s < B ^ (ln b - 1) * (y + 1) * 2 ^ s := Nat.mul_lt_mul_of_pos_right h2 hsp
    have h4 : (y + 1) * 2 ^ s ≤ 4294967296 := by rw [← e32]; exact Nat.mul_le_mul_right _ hhi
    have h5 : B ^ (ln b - 1) * ((y + 1) * 2 ^ s) ≤ B ^ (ln b - 1) * 4294967296 := Nat.mul_le_mul_left _ h4
    rw [Nat.mul_assoc] at h3
    omega
  have hv2 : B ^ (ln b - 1) * 2147483648 ≤ b * 2 ^ s := by
    have h2 : B ^ (ln b - 1) * y ≤ b := by omega
    have h3 : B ^ (ln b - 1) * y * 2 ^ s ≤ b * 2 ^ s := Nat.mul_le_mul_right _ h2
    have h4 : 2147483648 ≤ y * 2 ^ s := by rw [← e31]; exact Nat.mul_le_mul_right _ hlo
    have h5 : B ^ (ln b - 1) * 2147483648 ≤ B ^ (ln b - 1) * (y * 2 ^ s) := Nat.mul_le_mul_left _ h4
    rw [Nat.mul_assoc] at h3
    omega
  have hal := lt_pow_ln a
  have hge : b ≤ b * 2 ^ s := Nat.le_mul_of_pos_right _ hsp
  have hge2 : a ≤ a * 2 ^ s := Nat.le_mul_of_pos_right _ hsp
  refine ⟨hyl, h0, h1, hv1, Nat.le_antisymm (ln_le hv1) (ln_mono hge), ?_, ?_, ln_mono hge2, by omega⟩
  · have h2 : a * 2 ^ s < B ^ ln a * 2 ^ s := Nat.mul_lt_mul_of_pos_right hal hsp
    have h3 : B ^ ln a * 2 ^ s ≤ B ^ ln a * 2147483648 := Nat.mul_le_mul_left _ hs31
    have h4 : B ^ (ln b - 1) * 2147483648 * B ^ (ln a - ln b + 1) ≤ (b * 2 ^ s) * B ^ (ln a - ln b + 1) := Nat.mul_le_mul_right _ hv2
    have h5 : B ^ (ln b - 1) * 2147483648 * B ^ (ln a - ln b + 1) = B ^ ln a * 2147483648 := by
      rw [Nat.mul_right_comm, ← Nat.pow_add]
      congr 2
      omega
    omega
  · apply ln_le
    rw [Nat.pow_succ]
    have h2 : a * 2 ^ s < B ^ ln a * 2 ^ s := Nat.mul_lt_mul_of_pos_right hal hsp
    have h3 : B ^ ln a * 2 ^ s ≤ B ^ ln a * B := Nat.mul_le_mul_left _ (by unfold B; omega)
    omega
theorem long_end {a b s Q R : Nat} (h : a * 2 ^ s = b * 2 ^ s * Q + R) (hR : R < b * 2 ^ s) : Q = a / b ∧ R / 2 ^ s = a % b := by
  have hsp : 0 < 2 ^ s := Nat.pow_pos (by decide)
  have hb : 0 < b := by
    rcases Nat.eq_zero_or_pos b with h0 | h0
    · rw [h0] at hR; omega
    · exact h0
  have e1 : a * 2 ^ s / (b * 2 ^ s) = a / b := Nat.mul_div_mul_right _ _ hsp
  have e2 : a * 2 ^ s % (b * 2 ^ s) = a % b * 2 ^ s := Nat.mul_mod_mul_right _ _ _
  have h1 : a * 2 ^ s / (b * 2 ^ s) = Q := by
    rw [h, Nat.mul_add_div (by omega), Nat.div_eq_of_lt hR, Nat.add_zero]
  have h2 : a * 2 ^ s % (b * 2 ^ s) = R := by
    rw [h, Nat.mul_add_mod, Nat.mod_eq_of_lt hR]
  refine ⟨by rw [← h1, e1], ?_⟩
  rw [← h2, e2, Nat.mul_div_cancel _ hsp]
structure Digit (us : List Nat) (v j n x2 x1 x0 v1 v2 top W : Nat) : Prop where
  x2l : x2 < 4294967296
  x1l : x1 < 4294967296
  x0l : x0 < 4294967296
  v1l : v1 < 4294967296
  v2l : v2 < 4294967296
  v1p : 0 < v1
  topl : top ≤ 18446744073709551615
  init : W / v ≤ min (top / v1) 4294967295
  step : ∀ g rest, g * v1 + rest = top → W / v ≤ g → rest * 4294967296 + x0 < g * v2 → 1 ≤ g ∧ W / v ≤ g - 1
  fix : ∀ g rest, g * v1 + rest = top → W / v ≤ g → g < 4294967296 → (4294967296 ≤ rest ∨ g * v2 ≤ rest * 4294967296 + x0) → (W < g * v → 1 ≤ g ∧ (g - 1) * v ≤ W ∧ W < (g - 1) * v + v) ∧ (¬ W < g * v → W < g * v + v)
theorem digit_of {us : List Nat} {N v j n la : Nat} {qs : List Nat} {x2 x1 x0 v1 v2 top : Nat} (hn : 2 ≤ n) (hl : us.length = la + 1) (hd : Dg us) (hjn : j + n ≤ la) (hv : v < B ^ n) (hvn : ln v = n) (hL : Long N v (j + 1) us qs) (h2 : x2 = us.getD (j + n) 0) (h1 : x1 = us.getD (j + n - 1) 0) (h0 : x0 = us.getD (j + n - 2) 0) (hv1 : v1 = (dig v).getD (n - 1) 0) (hv2 : v2 = (dig v).getD (n - 2) 0) (ht : top = x2 * 4294967296 + x1) :
    Digit us v j n x2 x1 x0 v1 v2 top (val ((us.drop j).take (n + 1))) := by
  obtain ⟨m, rfl⟩ : ∃ m, n = m + 2 := ⟨n - 2, by omega⟩
  obtain ⟨e1, e2, e3⟩ := long_high hl hd hv hL.2 (by omega)
  have hsl : ((us.drop j).take (m + 2 + 1)).length = m + 3 := by rw [List.length_take, List.length_drop]; omega
  obtain ⟨s1, s2⟩ := top_three (xs := (us.drop j).take (m + 2 + 1)) (m := m) hsl (dg_take (dg_drop hd j) _)
  have hg : ∀ i, i < m + 3 → ((us.drop j).take (m + 2 + 1)).getD i 0 = us.getD (j + i) 0 := by
    intro i hi
    rw [List.getD_eq_getElem?_getD, List.getElem?_take, if_pos (by omega), List.getElem?_drop, List.getD_eq_getElem?_getD]
  rw [hg (m + 2) (by omega), hg (m + 1) (by omega), hg m (by omega)] at s1
  rw [show j + (m + 2) - 1 = j + (m + 1) from by omega] at h1
  rw [show j + (m + 2) - 2 = j + m from by omega] at h0
  rw [show m + 2 - 1 = m + 1 from by omega] at hv1
  rw [show m + 2 - 2 = m from by omega] at hv2
  have hdl : (dig v).length = m + 2 := hvn
  obtain ⟨t1, t2⟩ := top_two (xs := dig v) (m := m) hdl (dg_dig v)
  rw [val_dig, ← hv1, ← hv2] at t1
  rw [← h2, ← h1, ← h0] at s1
  have hx2 : x2 < B := by rw [h2]; exact dg_get hd _
  have hx1 : x1 < B := by rw [h1]; exact dg_get hd _
  have hx0 : x0 < B := by rw [h0]; exact dg_get hd _
  have hv1l : v1 < B := by rw [hv1]; exact dg_get (dg_dig v) _
  have hv2l : v2 < B := by rw [hv2]; exact dg_get (dg_dig v) _
  have hv1p : 0 < v1 := by
    have := dig_last v (m + 1) (by rw [hdl])
    rw [hv1]
    omega
  have ht' : x2 * B + x1 = top := ht.symm
  rw [ht'] at s1
  exact { x2l := hx2, x1l := hx1, x0l := hx0, v1l := hv1l, v2l := hv2l, v1p := hv1p,
          topl := by unfold B at hx2 hx1; omega,
          init := kn_init t1 s1 s2 hx0 hv1p e3,
          step := fun g rest a b c => kn_step t1 s1 s2 a b c,
          fix := fun g rest a b c d => kn_fix t1 s1 t2 hv1p c b (kn_exit a hv2l c d) }
theorem seg_split {us : List Nat} {j n : Nat} {post : List Value} : cells us ++ post = cells (us.take j) ++ (cells ((us.drop j).take (n + 1)) ++ (cells ((us.drop j).drop (n + 1)) ++ post)) := by
  rw [← List.append_assoc (cells ((us.drop j).take (n + 1))), ← cells_append, List.take_append_drop, ← List.append_assoc, ← cells_append, List.take_append_drop]
theorem seg_join {us ds : List Nat} {j n : Nat} {post : List Value} : cells (us.take j) ++ (cells ds ++ (cells ((us.drop j).drop (n + 1)) ++ post)) = cells (us.take j ++ (ds ++ (us.drop j).drop (n + 1))) ++ post := by
  rw [cells_append, cells_append, List.append_assoc, List.append_assoc]
theorem dg_join {us ds : List Nat} {j n : Nat} (h : Dg us) (hd : Dg ds) : Dg (us.take j ++ (ds ++ (us.drop j).drop (n + 1))) := dg_append (dg_take h j) (dg_append hd (dg_drop (dg_drop h j) _))
theorem len_join {us ds : List Nat} {j n la : Nat} (h : us.length = la + 1) (hd : ds.length = n + 1) (hj : j + n ≤ la) : (us.take j ++ (ds ++ (us.drop j).drop (n + 1))).length = la + 1 := by
  rw [List.length_append, List.length_append, List.length_take, List.length_drop, List.length_drop]
  omega
theorem fit_yes {W q v L d : Nat} (h : ¬ W < q * v) (e : d + q * v = W + (if W < q * v then B ^ L else 0)) (hb : W < q * v + v) : W = q * v + d ∧ d < v := by
  rw [if_neg h] at e
  omega
theorem fit_no {W q v L d d2 : Nat} (h : W < q * v) (e : d + q * v = W + (if W < q * v then B ^ L else 0)) (h1 : 1 ≤ q) (h2 : (q - 1) * v ≤ W) (h3 : W < (q - 1) * v + v) (hv : v < B ^ L) (e2 : d2 = (d + v) % B ^ L) : W = (q - 1) * v + d2 ∧ d2 < v := by
  rw [if_pos h] at e
  have e3 : (q - 1) * v + v = q * v := by
    rw [← Nat.succ_mul]
    congr 1
    omega
  have e4 : d + v = (W - (q - 1) * v) + B ^ L := by omega
  rw [e4, Nat.add_mod_right, Nat.mod_eq_of_lt (by omega)] at e2
  omega
end Go.Proofs.Ytcjcpfafalkceaa
