/- Part 8 of the texts behind this claim. -/
import Derived.Lib.ItoaNum
import Derived.Test.YtdfhhceboacdcaaGreatDoorGk2
import Derived.Test.YtdfhhceboacdcaaGreatDoorGk6
import Derived.Test.YtdfhhceboacdcaaGreatDoorGk7
set_option linter.unusedVariables false
namespace Go.Proofs.YtdfhhceboacdcaaGreatDoor
open Go.RowKit
theorem dig_getD (n k : Nat) : (dig n).getD k 0 = n / B ^ k % B := by
 induction k generalizing n with
 | zero =>
  by_cases h : n = 0
  ·subst h; rw [dig_zero]; simp
  rw [dig_pos h]; simp
 | succ k ih =>
  by_cases h : n = 0
  ·subst h; rw [dig_zero]; simp
  rw [dig_pos h]; show (dig (n / B)).getD k 0 = _; rw [ih, Nat.div_div_eq_div_mul, Nat.pow_succ, Nat.mul_comm (B ^ k) B]
theorem dig_take_succ {n k : Nat} (h : k < ln n) : (dig n).take (k + 1) = (dig n).take k ++ [n / B ^ k % 4294967296] := by
 rw [List.take_succ_eq_append_getElem h]; congr 2
 have := dig_getD n k; simp only [List.getD_eq_getElem?_getD, List.getElem?_eq_getElem (show k < (dig n).length from h)] at this; exact this
theorem div_pos_iff {n k : Nat} : 0 < n / B ^ k ↔ k < ln n := by
 constructor
 ·intro h; rcases Nat.lt_or_ge k (ln n) with h1 | h1
  ·exact h1
  have := lt_pow_ln n; have h2 : B ^ ln n ≤ B ^ k := Nat.pow_le_pow_right B_pos h1; rw [Nat.div_eq_of_lt (by omega)] at h; omega
 intro h; exact Nat.div_pos (pow_le_of_ln h) (Nat.pow_pos B_pos)
set_option maxRecDepth 100000 in
theorem natural_calls (n : Nat) (hn : ln n ≤ 2) (w : World) :
  Calls Tryz.prog 54 #[.int .u64 (n : Int)] w (RetN n w) := by
 obtain ⟨i0, hi, hz0, hz1, hz2⟩ := info_parts Tryz.info_word; have HN2 := Hd.mk hn; clear hn; go_enter Tryz.func54, Tryz.ntmps54
 go_wp2
 go_loopw [0, 3] (fun s0 s3 wr => ∃ (v : Value) (k : Nat), v = s3 ∧ k ≤ ln n ∧ s0 = .int .u64 ((n / B ^ k : Nat) : Int) ∧ wr.ownsRow w.heap.size 46 1 v k (cells ((dig n).take k)) ∧ Below w.heap.size w wr) (fun s0 _ _ => (intOf s0).toNat)
 case atStart => exact ⟨_, 0, rfl, Nat.zero_le _, by simp, ⟨rfl, .inl ⟨rfl, rfl⟩⟩, Below.refl _ _⟩
 case round =>
  obtain ⟨v, k, rfl, hk, rfl, hown, hbel⟩ := hrel; have HO := Hd.mk hown; have HB := Hd.mk hbel; clear hown hbel; obtain ⟨q, hq⟩ : ∃ q, q = n / B ^ k := ⟨_, rfl⟩; rw [← hq]
  have hql : q ≤ 18446744073709551615 := by
   have h1 := lt_pow_ln n; have h2 : B ^ ln n ≤ B ^ 2 := Nat.pow_le_pow_right B_pos HN2.out; have h3 : B ^ 2 = 18446744073709551616 := by decide
   have h4 : q ≤ n := by rw [hq]; exact Nat.div_le_self _ _
   omega
  by_cases hlt : k < ln n
  ·have hq0 : 0 < q := by rw [hq]; exact div_pos_iff.2 hlt
   obtain ⟨x, hx⟩ : ∃ x : Nat, x = q % 4294967296 := ⟨_, rfl⟩; have hx' : ((q : Nat) : Int) % 4294967296 = (x : Int) := by rw [hx]; omega
   have hts := dig_take_succ hlt; rw [← hq, ← hx] at hts; have HTS := Hd.mk hts; obtain ⟨q2, hq2⟩ : ∃ q2 : Nat, q2 = q / 4294967296 := ⟨_, rfl⟩; have hq2' : ((q : Nat) : Int) / 4294967296 = (q2 : Int) := by rw [hq2]; omega
   have hq3 : q2 = n / B ^ (k + 1) := by rw [hq2, hq, Nat.div_div_eq_div_mul, Nat.pow_succ]; rfl
   have HQ3 := Hd.mk hq3; have hlt2 : q2 < q := by rw [hq2]; exact Nat.div_lt_self hq0 (by decide)
   clear hx hq2 hq3 hts hq; go_wp2_with (first | (at_builtin; refine wpList_append_any _ rfl (.tmp 8) (.tmp 11) 59 rfl w.heap.size 46 i0 (.int .u32 0) 1 4 Tryz.underlying59 hi hz0 hz1 hz2 rfl (by decide) v k (cells ((dig n).take k)) rfl (HO.out.alloc _) _ (some ⟨wr.heap.size, 0, none⟩) 1 1 (cells [x]) rfl (reads_new _ _ _) (cells_one _) (by have := HN2.out; unfold maxLen; omega) (by have := HN2.out; omega) (by have := HB.out.size; simp; omega) ?_; intro v1 w1 hown1 hg1 hat1))
   rw [← cells_append] at hown1; go_roundw
   case rel => exact ⟨_, k + 1, rfl, by omega, by rw [HQ3.out], by rw [HTS.out]; exact hown1, (below_alloc HB.out _).grown hg1 (by have := HB.out.size; simp; omega) (own_ge HO.out)⟩
   case measure => simp [intOf]; omega
  have hke : k = ln n := by omega
  have hq0 : q = 0 := by
   rcases Nat.eq_zero_or_pos q with h | h
   ·exact h
   rw [hq] at h; exact absurd (div_pos_iff.1 h) hlt
  have hown2 : wr.ownsRow w.heap.size 46 1 v (dig n).length (cells (dig n)) := by
   have := HO.out; rw [hke, List.take_of_length_le (show (dig n).length ≤ ln n from Nat.le_refl _)] at this; exact this
  obtain ⟨A3, c3, hv3, hrn, hc3, hcm⟩ := own_slice hown2; subst hv3; subst hq0; have HR := Hd.mk hrn; clear hrn hown2 hq hke HO; go_wp2
  go_ret
  exact ⟨_, _, rfl, ⟨HR.out, hc3, hcm⟩, HB.out⟩
def nbits (n : Nat) : Nat := if n = 0 then 0 else Nat.log2 n + 1
theorem nbits_le {n k : Nat} : nbits n ≤ k ↔ n < 2 ^ k := by
 unfold nbits; by_cases h : n = 0
 ·subst h; simp [Nat.pow_pos]
 rw [if_neg h, ← Nat.log2_lt h]; omega
theorem nbits_is {n k : Nat} (h1 : n < 2 ^ k) (h2 : 0 < k → 2 ^ (k - 1) ≤ n) : nbits n = k := by
 have a := nbits_le.2 h1; rcases Nat.eq_zero_or_pos k with h | h
 ·omega
 have b : ¬ nbits n ≤ k - 1 := fun hc => by
  have := nbits_le.1 hc; have := h2 h; omega
 omega
theorem nbits_lo {n : Nat} (h : n ≠ 0) : 2 ^ (nbits n - 1) ≤ n := by
 rcases Nat.lt_or_ge n (2 ^ (nbits n - 1)) with h1 | h1
 ·have h2 := nbits_le.2 h1; have h3 : nbits n ≠ 0 := by unfold nbits; rw [if_neg h]; omega
  omega
 exact h1
theorem nbits_hi (n : Nat) : n < 2 ^ nbits n := nbits_le.1 (Nat.le_refl _)
theorem pow_B (k : Nat) : B ^ k = 2 ^ (32 * k) := by rw [Nat.pow_mul]; rfl
theorem bitLen_nbits {x : Nat} (h : x < 4294967296) : Lib.bitLen x = nbits x := by
 by_cases h0 : x = 0
 ·subst h0; decide
 obtain ⟨h1, h2, h3⟩ := Lib.bitLenAux_bounds 64 x (Nat.lt_of_lt_of_le h (by decide)) h0; exact (nbits_is h3 (fun _ => h2)).symm
def RetO (n : Nat) (w : World) (e : Ending) (w' : World) : Prop := ∃ v, e = .returned v ∧ w'.ownsRow w.heap.size 46 1 v (ln n) (cells (dig n)) ∧ Below w.heap.size w w'
theorem ownsRow_mono {w : World} {b b' : Nat} {e : TypeId} {s : Nat} {v : Value} {n : Nat} {xs : List Value} (h : w.ownsRow b e s v n xs) (hb : b' ≤ b) : w.ownsRow b' e s v n xs := by
 refine ⟨h.1, ?_⟩; rcases h.2 with h0 | ⟨g, cap, cur, h1, h2, h3⟩
 ·exact .inl h0
 exact .inr ⟨g, cap, cur, h1, Nat.le_trans hb h2, h3⟩
set_option maxRecDepth 100000 in
theorem words_own (A1 : Option Addr) (c1 n : Nat) (k : Nat) (w : World) (h1 : NN w A1 c1 n) (l1 : ln n ≤ 1073741824) (l2 : k ≤ 1073741824) :
  Calls Tryz.prog 103 #[.slice A1 (ln n) c1, .int .i64 (k : Int)] w (RetO (n * B ^ k) w) := by
 have HX := Hd.mk h1; by_cases h0 : n = 0
 ·subst h0; clear h1; rw [ln_zero, Nat.zero_mul]; go_enter Tryz.func103, Tryz.ntmps103
  go_wp2_with (first | (go_at_call 65; refine (zero_calls _ _ _ _ (by omega)).mono ?_; rintro e w' ⟨rfl, rfl⟩))
  go_ret
  exact ⟨_, rfl, by rw [ln_zero, dig_zero]; exact ⟨rfl, .inl ⟨rfl, rfl⟩⟩, Below.refl _ _⟩
 have hlp : ln n ≠ 0 := fun h => h0 (ln_eq_zero.1 h)
 have hd0 : decide (ln n = 0) = false := decide_eq_false hlp; have hmk := fun W => make_words2 49 Tryz.underlying49 (k : Int) ((k : Int) + (ln n : Int)) k (k + ln n) rfl (by omega) (by omega) (by omega) W
 have hown : (w.alloc (.cells (cells (List.replicate (k + ln n) 0)).toArray 46)).ownsRow w.heap.size 46 1 (.slice (some ⟨w.heap.size, 0, none⟩) k (k + ln n)) k (cells (List.replicate k 0)) := by
  have := own_made (heap_alloc_new w (.cells (cells (List.replicate (k + ln n) 0)).toArray 46)) (c := k + ln n) (n := k) (by simp) (by omega) (by omega) (base := w.heap.size) (Nat.le_refl _); rwa [List.take_replicate, Nat.min_eq_left (by omega)] at this
 have hrd : Reads (w.alloc (.cells (cells (List.replicate (k + ln n) 0)).toArray 46)) (w.alloc (.cells (cells (List.replicate (k + ln n) 0)).toArray 46)).heap.size 1 A1 (ln n) (cells (dig n)) := (h1.1.to (below_alloc (Below.refl _ _) _)).reads; have HO := Hd.mk hown; have HR := Hd.mk hrd; obtain ⟨i0, hi, hz0, hz1, hz2⟩ := info_parts Tryz.info_word; clear h1 hown hrd h0; go_enter Tryz.func103, Tryz.ntmps103
 go_wp2_with (first | (go_at_call 65; refine (zero_calls _ _ _ _ (by omega)).mono ?_; rintro e w' ⟨rfl, rfl⟩) | (at_builtin; refine wpList_append_any _ rfl (.tmp 12) (.tmp 13) 49 rfl w.heap.size 46 i0 (.int .u32 0) 1 4 Tryz.underlying49 hi hz0 hz1 hz2 rfl (by decide) (.slice (some ⟨w.heap.size, 0, none⟩) k (k + ln n)) k (cells (List.replicate k 0)) rfl HO.out _ A1 (ln n) c1 (cells (dig n)) rfl HR.out (cells_one _) (by unfold maxLen; omega) (by omega) (by simp) ?_; intro v1 w1 hown1 hg1 hat1))
 have hl : (List.replicate k 0 ++ dig n).length = k + ln n := by simp [ln]
 have hne : n ≠ 0 := fun h => hlp (ln_eq_zero.2 h)
 rw [← cells_append, ← hl] at hown1; rw [← dig_shift hne] at hown1; have HO1 := Hd.mk hown1; clear hown1; go_ret
 exact ⟨_, rfl, HO1.out, (below_alloc (Below.refl w.heap.size w) _).grown hg1 (by simp) (fun j e => by cases e; exact Nat.le_refl _)⟩
theorem pow_r {r : Nat} (h : r < 32) : 2 ^ r * 2 ^ (32 - r) = 4294967296 ∧ 0 < 2 ^ r := by
 rw [← Nat.pow_add, show r + (32 - r) = 32 from by omega]; exact ⟨by decide, Nat.pow_pos (by decide)⟩
theorem or_shift {o x r : Nat} (hr : r < 32) (ho : o < 2 ^ r) (hx : x < 4294967296) : o ||| (x * 2 ^ r % 4294967296) = o + x * 2 ^ r % 4294967296 := by
 obtain ⟨h1, h2⟩ := pow_r hr
 have e : x * 2 ^ r % 4294967296 = 2 ^ r * (x % 2 ^ (32 - r)) := by
  rw [← h1, Nat.mul_comm x, Nat.mul_mod_mul_left]
 rw [e, Nat.or_comm, Nat.add_comm]; exact (Nat.two_pow_add_eq_or_of_lt ho _).symm
theorem shl_word {x r : Nat} (hr : r < 32) (hx : x < 4294967296) : x * 2 ^ r < 18446744073709551616 ∧ x * 2 ^ r / 4294967296 < 2 ^ r := by
 obtain ⟨h1, h2⟩ := pow_r hr; have h3 : 2 ^ r ≤ 2 ^ 31 := Nat.pow_le_pow_right (by decide) (by omega); have h4 : (2 : Nat) ^ 31 = 2147483648 := by decide
 have h5 : x * 2 ^ r < 4294967296 * 2 ^ r := Nat.mul_lt_mul_of_pos_right hx h2; constructor
 ·omega
 rw [Nat.div_lt_iff_lt_mul (by decide), Nat.mul_comm (2 ^ r)]; exact h5
theorem val_two_sets {ds : List Nat} {k o lo hi V : Nat} (hl : k + 1 < ds.length) (ho : ds.getD k 0 = o) (hz : ds.getD (k + 1) 0 = 0) (h : val ds = V) :
  val ((ds.set k (o + lo)).set (k + 1) hi) = V + B ^ k * (lo + B * hi) := by
 have e1 := val_set (ds := ds) (i := k) (by omega) (o + lo); have e2 := val_set (ds := ds.set k (o + lo)) (i := k + 1) (by rw [List.length_set]; exact hl) hi; rw [getD_set_ne (by omega), hz] at e2; rw [ho, Nat.mul_add] at e1; simp only [Nat.pow_succ, Nat.mul_assoc] at e2; rw [Nat.mul_add]; omega
set_option maxHeartbeats 1000000 in
set_option maxRecDepth 100000 in
theorem shl_calls (A1 : Option Addr) (c1 n s : Nat) (w : World) (h1 : NN w A1 c1 n) (l1 : ln n ≤ 536870912) (l2 : s ≤ 1073741824) :
  Calls Tryz.prog 94 #[.slice A1 (ln n) c1, .int .i64 (s : Int)] w (RetO (n * 2 ^ s) w) := by
 have HX := Hd.mk h1; clear h1; obtain ⟨r, hr⟩ : ∃ r, r = s % 32 := ⟨_, rfl⟩; obtain ⟨q, hq⟩ : ∃ q, q = s / 32 := ⟨_, rfl⟩; have hr32 : r < 32 := by omega
 have hsr : (s : Int) % 32 = (r : Int) := by omega
 have hsq : (s : Int) / 32 = (q : Int) := by omega
 have hss : n * 2 ^ s = n * 2 ^ r * B ^ q := by
  rw [pow_B, Nat.mul_assoc, ← Nat.pow_add, hr, hq, Nat.mod_add_div]
 have hql : q ≤ 1073741824 := by omega
 have HSS := Hd.mk hss; clear hss hr hq; have hmk := fun W => make_words 49 Tryz.underlying49 ((ln n : Int) + 1) (ln n + 1) (by omega) (by omega) W
 go_enter Tryz.func94, Tryz.ntmps94
 go_wp2
 clear hmk; go_loopw [15] (fun s15 wr => ∃ (k : Nat) (ds : List Nat), k ≤ ln n ∧ s15 = .int .i64 k ∧ ds.length = ln n + 1 ∧ Dg ds ∧ val ds = val ((dig n).take k) * 2 ^ r ∧ ds.getD k 0 < 2 ^ r ∧ (∀ t, k < t → ds.getD t 0 = 0) ∧ Blk wr w.heap.size 46 (cells ds) ∧ Below w.heap.size w wr) (fun s _ => ln n - (intOf s).toNat)
 case atStart => exact ⟨0, List.replicate (ln n + 1) 0, Nat.zero_le _, rfl, by simp, dg_zeros _, by rw [val_zeros]; simp [val], by rw [getD_zeros]; exact Nat.pow_pos (by decide), fun t _ => getD_zeros _ t, heap_alloc_new w _, below_alloc (Below.refl _ _) _⟩
 case round =>
  obtain ⟨k, ds, hk, rfl, hdl, hdd, hval, hlo, hzz, hblk, hbel⟩ := hrel; have HV := Hd.mk hval; have HK := Hd.mk hblk; have HL := Hd.mk hdl; have HB := Hd.mk hbel; have HDD := Hd.mk hdd; have HZZ := Hd.mk hzz; have HLO := Hd.mk hlo; clear hval hblk hdl hbel hdd hzz hlo; by_cases hkl : k < ln n
  ·obtain ⟨a1, rfl, hcell1⟩ := (HX.out.to HB.out).at_ hkl; obtain ⟨x, hx⟩ : ∃ x, x = (dig n).getD k 0 := ⟨_, rfl⟩; have hx1 : x < 4294967296 := by rw [hx]; exact dg_get (dg_dig _) k
   rw [← hx] at hcell1; obtain ⟨o, ho⟩ : ∃ o, o = ds.getD k 0 := ⟨_, rfl⟩; have hck := HK.out.at_ (i := k) (by have := HL.out; omega); have hfz := HK.out.frozen k; rw [← ho] at hck; obtain ⟨t, ht⟩ : ∃ t, t = x * 2 ^ r := ⟨_, rfl⟩; obtain ⟨hs1, hs2⟩ := shl_word hr32 hx1; have hor := or_shift hr32 (by rw [ho]; exact HLO.out : o < 2 ^ r) hx1; rw [← ht] at hs1 hs2 hor; have hol : o < 4294967296 := by rw [ho]; exact dg_get HDD.out k
   obtain ⟨lo, hlo⟩ : ∃ lo, lo = t % 4294967296 := ⟨_, rfl⟩; obtain ⟨hi, hhi⟩ : ∃ hi, hi = t / 4294967296 := ⟨_, rfl⟩; rw [← hlo] at hor; rw [← hhi] at hs2
   have hsum : o + lo < 4294967296 := by
    have h1 : o ||| lo < 2 ^ 32 := Nat.or_lt_two_pow (by omega) (by omega); rw [hor] at h1; omega
   have hhil : hi < 4294967296 := by omega
   have e1 : IntKind.u64.wrap ((x : Int) * 2 ^ r) = (t : Int) := by
    have : ((x : Int) * 2 ^ r) = (t : Int) := by rw [ht]; simp
    rw [this, IntKind.wrap_u64]; omega
   have e2 : (t : Int) % 4294967296 = (lo : Int) := by omega
   have e3 : (t : Int) / 4294967296 = (hi : Int) := by omega
   obtain ⟨ol, hol2⟩ : ∃ ol, ol = o + lo := ⟨_, rfl⟩; have e4 : bits .or .u32 (o : Int) (lo : Int) = (ol : Int) := by rw [u32_or_nat _ _ (by omega) (by omega), hor, hol2]
   have hput := HK.out.put k ol; have hput2 := hput.put (k + 1) hi; have hck2 := HK.out.at_ (i := k + 1) (by have := HL.out; omega); rw [HZZ.out (k + 1) (by omega)] at hck2; have hfz2 := HK.out.frozen (k + 1); rw [← hol2] at hsum; have hnew := val_two_sets (ds := ds) (k := k) (o := o) (lo := lo) (hi := hi) (by have := HL.out; omega) ho.symm (HZZ.out (k + 1) (by omega)) HV.out; rw [← hol2] at hnew
   have hnew2 : val ((ds.set k ol).set (k + 1) hi) = val ((dig n).take (k + 1)) * 2 ^ r := by
    rw [hnew, val_take_next, ← hx, Nat.add_mul, Nat.mul_assoc, ← ht]; congr 2
    rw [hlo, hhi]; exact Nat.mod_add_div _ _
   have hg1 : ((ds.set k ol).set (k + 1) hi).getD (k + 1) 0 = hi := by
    have h1 := HL.out; rw [List.getD_eq_getElem?_getD, List.getElem?_set_self (by rw [List.length_set]; omega)]; rfl
   have HN := Hd.mk hnew2; have HP := Hd.mk hput2; have HG := Hd.mk hg1; have HS2 := Hd.mk hs2; clear hput hput2 hnew hnew2 hor hx ho ht hlo hhi hg1 hol2; go_wp2_with fail
   go_roundw
   case rel =>
    refine ⟨k + 1, (ds.set k ol).set (k + 1) hi, by omega, by go_num, by rw [List.length_set, List.length_set]; exact HL.out, dg_set (dg_set HDD.out _ hsum) _ hhil, HN.out, by rw [HG.out]; exact HS2.out, fun t ht => ?_, HP.out, below_set (below_set HB.out (Nat.le_refl _) _) (Nat.le_refl _) _⟩; rw [getD_set_ne (by omega), getD_set_ne (by omega)]; exact HZZ.out t (by omega)
   case measure => simp [intOf]; omega
  have hke : k = ln n := by omega
  subst hke
  have hv2 : val ds = n * 2 ^ r := by
   rw [HV.out, val_take_all (Nat.le_refl _)]
  have hc := norm_calls (some ⟨w.heap.size, 0, none⟩) (ln n + 1) ds _ HK.out.reads HDD.out (by have := HL.out; omega) (by omega); have hrn := HK.out.reads.of_take HDD.out; rw [HL.out, hv2] at hc; rw [hv2] at hrn
  have hfin : ln (n * 2 ^ r) ≤ ln n + 1 := by
   rw [← hv2]; have := val_lt HDD.out; rw [HL.out] at this; exact ln_le this
  have HC := Hd.mk hc; have HNN : Hd (NN wr (some ⟨w.heap.size, 0, none⟩) (ln n + 1) (n * 2 ^ r)) := ⟨⟨hrn, hfin, by omega⟩⟩; have HWO := Hd.mk (fun W (hW : Below wr.heap.size wr W) => words_own (some ⟨w.heap.size, 0, none⟩) (ln n + 1) (n * 2 ^ r) q W (HNN.out.to hW) (by omega) hql); rw [← HSS.out] at HWO; clear hv2 hc hrn HNN; go_wp2_with (first | (go_at_call 78; refine HC.out.mono ?_; rintro e w' ⟨rfl, rfl⟩) | (go_at_call 103; refine (HWO.out _ (Below.refl _ _)).mono ?_; rintro e w' ⟨v, rfl, ho, hb⟩; have HO := Hd.mk ho; have HB' := Hd.mk hb; clear ho hb))
  go_ret
  exact ⟨_, rfl, ownsRow_mono HO.out HB.out.size, below_then HB.out HB.out.size HB'.out⟩
theorem or_high (h l : Nat) (hl : l < 4294967296) (hh : h < 4294967296) : bits .or .u64 ((h : Int) * 4294967296) (l : Int) = ((h * 4294967296 + l : Nat) : Int) := by
 have e : ((h : Int) * 4294967296) = ((h * 4294967296 : Nat) : Int) := by omega
 rw [e, u64_or_nat _ _ (by omega) (by omega)]; have := Nat.two_pow_add_eq_or_of_lt (i := 32) hl h; congr 1
 rw [Nat.mul_comm h]; exact this.symm
theorem val_drop_cons {xs : List Nat} {k : Nat} (h : k < xs.length) : val (xs.drop k) = xs.getD k 0 + B * val (xs.drop (k + 1)) := by
 rw [List.drop_eq_getElem_cons h, val]; simp [h]
theorem val_drop_set {xs : List Nat} {k : Nat} (h : k < xs.length) (q : Nat) : val ((xs.set k q).drop k) = q + B * val (xs.drop (k + 1)) := by
 have e : (xs.set k q).drop k = q :: xs.drop (k + 1) := by
  rw [List.drop_eq_getElem_cons (by rw [List.length_set]; exact h), List.drop_set_of_lt (by omega)]; simp
 rw [e, val]
theorem div_word {r x b : Nat} (hr : r < b) (hb : b < 4294967296) (hx : x < 4294967296) : (r * 4294967296 + x) / b < 4294967296 ∧ (r * 4294967296 + x) % b < b := by
 refine ⟨?_, Nat.mod_lt _ (by omega)⟩; rw [Nat.div_lt_iff_lt_mul (by omega)]; have : (r + 1) * 4294967296 ≤ b * 4294967296 := Nat.mul_le_mul_right _ hr; omega
def RetNN (m n : Nat) (w : World) (e : Ending) (w' : World) : Prop := ∃ A c A' c', e = .returned (.tuple #[.slice A (ln m) c, .slice A' (ln n) c']) ∧ NN w' A c m ∧ NN w' A' c' n ∧ Below w.heap.size w w'
def RetSh (m n c : Nat) (w : World) (e : Ending) (w' : World) : Prop := ∃ A' c', e = .returned (.tuple #[.slice (some ⟨w.heap.size, 0, none⟩) (ln m) c, .slice A' (ln n) c']) ∧ NN w' (some ⟨w.heap.size, 0, none⟩) c m ∧ NN w' A' c' n ∧ w.heap.size < w'.heap.size ∧ Below w.heap.size w w'
set_option maxHeartbeats 1000000 in
set_option maxRecDepth 100000 in
theorem short_new (A1 : Option Addr) (c1 n b : Nat) (w : World) (h1 : NN w A1 c1 n) (l1 : ln n ≤ 1073741824) (hb0 : 0 < b) (hb : b < 4294967296) :
  Calls Tryz.prog 66 #[.slice A1 (ln n) c1, .int .u32 (b : Int)] w (RetSh (n / b) (n % b) (ln n) w) := by
 have HX := Hd.mk h1; clear h1; have hmk := fun W => make_words 49 Tryz.underlying49 (ln n : Int) (ln n) (by omega) (by omega) W
 have hbz : ((b : Int) == 0) = false := by rw [beq_eq_false_iff_ne]; omega
 go_enter Tryz.func66, Tryz.ntmps66
 go_wp2
 clear hmk; go_loopw [7, 8] (fun s7 s8 wr => ∃ (k r : Nat) (ds : List Nat), k ≤ ln n ∧ s8 = .int .i64 ((k : Int) - 1) ∧ s7 = .int .u64 (r : Int) ∧ r < b ∧ ds.length = ln n ∧ Dg ds ∧ val ((dig n).drop k) = b * val (ds.drop k) + r ∧ Blk wr w.heap.size 46 (cells ds) ∧ Below w.heap.size w wr) (fun _ s _ => (intOf s + 1).toNat)
 case atStart => exact ⟨ln n, 0, List.replicate (ln n) 0, Nat.le_refl _, rfl, rfl, hb0, by simp, dg_zeros _, by rw [List.drop_eq_nil_of_le (show (dig n).length ≤ ln n from Nat.le_refl _), List.drop_eq_nil_of_le (by simp)]; simp [val], heap_alloc_new w _, below_alloc (Below.refl _ _) _⟩
 case round =>
  obtain ⟨k, r, ds, hk, rfl, rfl, hrb, hdl, hdd, hval, hblk, hbel⟩ := hrel; have HV := Hd.mk hval; have HK := Hd.mk hblk; have HL := Hd.mk hdl; have HB := Hd.mk hbel; have HDD := Hd.mk hdd; clear hval hblk hdl hbel hdd; rcases k with _ | k
  ·have hv : n = b * val ds + r := by have := HV.out; rwa [List.drop_zero, List.drop_zero, val_dig] at this
   have hq : val ds = n / b := by rw [hv, Nat.mul_add_div hb0, Nat.div_eq_of_lt hrb]; omega
   have hr : r = n % b := by rw [hv, Nat.mul_add_mod, Nat.mod_eq_of_lt hrb]
   have hc := norm_calls (some ⟨w.heap.size, 0, none⟩) (ln n) ds _ HK.out.reads HDD.out (by have := HL.out; omega) (by omega); have hrn := HK.out.reads.of_take HDD.out; rw [HL.out, hq] at hc; rw [hq] at hrn; have HC := Hd.mk hc; have HN1 : Hd (NN wr (some ⟨w.heap.size, 0, none⟩) (ln n) (n / b)) := ⟨⟨hrn, ln_mono (Nat.div_le_self _ _), by omega⟩⟩; have HS := Hd.mk (fun W => small_calls r (by unfold B; omega) W); rw [hr] at HS; have HR := Hd.mk hr; clear hv hq hc hrn; rw [hr] at hrb ⊢; clear hr; go_wp2_with (first | (go_at_call 78; refine HC.out.mono ?_; rintro e w' ⟨rfl, rfl⟩) | (go_at_call 47; refine (HS.out _).mono ?_; rintro e w' ⟨A3, c3, rfl, hn3, hb3⟩; have HN3 := Hd.mk hn3; have HB3 := Hd.mk hb3; clear hn3 hb3))
   go_ret2
   exact ⟨A3, c3, rfl, HN1.out.to HB3.out, HN3.out, Nat.lt_of_lt_of_le HK.out.lt HB3.out.size, below_then HB.out HB.out.size HB3.out⟩
  obtain ⟨a1, rfl, hcell1⟩ := (HX.out.to HB.out).at_ (k := k) (by omega); obtain ⟨x, hx⟩ : ∃ x, x = (dig n).getD k 0 := ⟨_, rfl⟩; have hx1 : x < 4294967296 := by rw [hx]; exact dg_get (dg_dig _) k
  rw [← hx] at hcell1; have hck := HK.out.at_ (i := k) (by have := HL.out; omega); have hfz := HK.out.frozen k; obtain ⟨t, ht⟩ : ∃ t, t = r * 4294967296 + x := ⟨_, rfl⟩; obtain ⟨hq1, hr1⟩ := div_word hrb hb hx1; rw [← ht] at hq1 hr1; have hd1 := val_drop_cons (xs := dig n) (k := k) (by unfold ln at hk; omega); obtain ⟨q, hq⟩ : ∃ q, q = t / b := ⟨_, rfl⟩; obtain ⟨r2, hr2⟩ : ∃ r2, r2 = t % b := ⟨_, rfl⟩; rw [← hq] at hq1; rw [← hr2] at hr1; have hd2 := val_drop_set (xs := ds) (k := k) (by have := HL.out; omega) q
  have hnew : val ((dig n).drop k) = b * val ((ds.set k q).drop k) + r2 := by
   rw [hd1, hd2, HV.out, ← hx]; have h1 : b * q + r2 = r * 4294967296 + x := by rw [hq, hr2, ← ht]; exact Nat.div_add_mod t b
   rw [Nat.mul_add, Nat.mul_add, Nat.mul_left_comm b B]; show x + (B * (b * val (List.drop (k + 1) ds)) + 4294967296 * r) = _; omega
  have hput := HK.out.put k q; have e1 : bits .or .u64 ((r : Int) * 4294967296) (x : Int) = (t : Int) := by rw [or_high r x hx1 (by omega), ht]
  have e2 : (t : Int) / (b : Int) = (q : Int) := by rw [hq]; exact (Int.natCast_ediv _ _).symm
  have e3 : (t : Int) % (b : Int) = (r2 : Int) := by rw [hr2]; exact (Int.natCast_emod _ _).symm
  have e4 : (q : Int) % 4294967296 = (q : Int) := by omega
  have hr64 : r * 4294967296 ≤ 18446744073709551615 := by omega
  have e5 : ((k + 1 : Nat) : Int) - 1 = (k : Int) := by omega
  rw [e5]; have HN := Hd.mk hnew; have HP := Hd.mk hput; have htl : t ≤ 18446744073709551615 := by omega
  clear hx ht hq hr2 hnew hput hd1 hd2 e5; go_wp2_with fail
  go_roundw
  case rel => exact ⟨k, r2, ds.set k q, by omega, rfl, by rw [e3], hr1, by rw [List.length_set]; exact HL.out, dg_set HDD.out _ hq1, HN.out, HP.out, below_set HB.out (Nat.le_refl _) _⟩
  case measure => simp [intOf]
theorem short_calls (A1 : Option Addr) (c1 n b : Nat) (w : World) (h1 : NN w A1 c1 n) (l1 : ln n ≤ 1073741824) (hb0 : 0 < b) (hb : b < 4294967296) :
  Calls Tryz.prog 66 #[.slice A1 (ln n) c1, .int .u32 (b : Int)] w (RetNN (n / b) (n % b) w) :=
 (short_new A1 c1 n b w h1 l1 hb0 hb).mono fun _ _ ⟨A', c', he, h2, h3, _, h5⟩ => ⟨_, _, A', c', he, h2, h3, h5⟩
end Go.Proofs.YtdfhhceboacdcaaGreatDoor
