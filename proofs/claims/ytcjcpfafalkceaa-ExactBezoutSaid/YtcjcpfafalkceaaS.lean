/- Shifts of natural numbers. -/
import Derived.Test.YtcjcpfafalkceaaM
import Derived.Test.YtcjcpfafalkceaaRI
set_option linter.unusedVariables false
namespace Go.Proofs.Ytcjcpfafalkceaa
open Go.RowKit
/-- What a call leaves that hands back a number in a row of its own. -/
def RetO (n : Nat) (w : World) (e : Ending) (w' : World) : Prop := ∃ v, e = .returned v ∧ w'.ownsRow w.heap.size 72 1 v (ln n) (cells (dig n)) ∧ Below w.heap.size w w'
theorem RetO.retN {n : Nat} {w w' : World} {e : Ending} (h : RetO n w e w') : RetN n w e w' := by
  obtain ⟨v, rfl, ho, hb⟩ := h
  obtain ⟨A, c, rfl, hr, h1, h2⟩ := own_slice (xs := dig n) ho
  exact ⟨A, c, rfl, ⟨hr, h1, h2⟩, hb⟩
theorem ownsRow_mono {w : World} {b b' : Nat} {e : TypeId} {s : Nat} {v : Value} {n : Nat} {xs : List Value} (h : w.ownsRow b e s v n xs) (hb : b' ≤ b) : w.ownsRow b' e s v n xs := by
  refine ⟨h.1, ?_⟩
  rcases h.2 with h0 | ⟨g, cap, cur, h1, h2, h3⟩
  · exact .inl h0
  · exact .inr ⟨g, cap, cur, h1, Nat.le_trans hb h2, h3⟩
set_option maxRecDepth 100000 in
theorem words_own (A1 : Option Addr) (c1 n : Nat) (k : Nat) (w : World) (h1 : NN w A1 c1 n) (l1 : ln n ≤ 1073741824) (l2 : k ≤ 1073741824) :
    Calls Try.prog 122 #[.slice A1 (ln n) c1, .int .i64 (k : Int)] w (RetO (n * B ^ k) w) := by
  have HX := Hd.mk h1
  by_cases h0 : n = 0
  · subst h0
    clear h1
    rw [ln_zero, Nat.zero_mul]
    go_enter Try.func122, Try.ntmps122
    go_wp2_with (first | (go_at_call 89; refine (zero_calls _ _ _ _ (by omega)).mono ?_; rintro e w' ⟨rfl, rfl⟩))
    go_ret
    exact ⟨_, rfl, by rw [ln_zero, dig_zero]; exact ⟨rfl, .inl ⟨rfl, rfl⟩⟩, Below.refl _ _⟩
  · have hlp : ln n ≠ 0 := fun h => h0 (ln_eq_zero.1 h)
    have hd0 : decide (ln n = 0) = false := decide_eq_false hlp
    have hmk := fun W => make_words2 68 Try.underlying68 (k : Int) ((k : Int) + (ln n : Int)) k (k + ln n) rfl (by omega) (by omega) (by omega) W
    have hown : (w.alloc (.cells (cells (List.replicate (k + ln n) 0)).toArray 72)).ownsRow w.heap.size 72 1 (.slice (some ⟨w.heap.size, 0, none⟩) k (k + ln n)) k (cells (List.replicate k 0)) := by
      have := own_made (heap_alloc_new w (.cells (cells (List.replicate (k + ln n) 0)).toArray 72)) (c := k + ln n) (n := k) (by simp) (by omega) (by omega) (base := w.heap.size) (Nat.le_refl _)
      rwa [List.take_replicate, Nat.min_eq_left (by omega)] at this
    have hrd : Reads (w.alloc (.cells (cells (List.replicate (k + ln n) 0)).toArray 72)) (w.alloc (.cells (cells (List.replicate (k + ln n) 0)).toArray 72)).heap.size 1 A1 (ln n) (cells (dig n)) := (h1.1.to (below_alloc (Below.refl _ _) _)).reads
    have HO := Hd.mk hown
    have HR := Hd.mk hrd
    obtain ⟨i0, hi, hz0, hz1, hz2⟩ := info_parts Try.info_word
    clear h1 hown hrd h0
    go_enter Try.func122, Try.ntmps122
    go_wp2_with (first | (go_at_call 89; refine (zero_calls _ _ _ _ (by omega)).mono ?_; rintro e w' ⟨rfl, rfl⟩) | (at_builtin; refine wpList_append_any _ rfl (.tmp 12) (.tmp 13) 68 rfl w.heap.size 72 i0 (.int .u32 0) 1 4 Try.underlying68 hi hz0 hz1 hz2 rfl (by decide) (.slice (some ⟨w.heap.size, 0, none⟩) k (k + ln n)) k (cells (List.replicate k 0)) rfl HO.out _ A1 (ln n) c1 (cells (dig n)) rfl HR.out (cells_one _) (by unfold maxLen; omega) (by omega) (by simp) ?_; intro v1 w1 hown1 hg1 hat1))
    have hl : (List.replicate k 0 ++ dig n).length = k + ln n := by simp [ln]
    have hne : n ≠ 0 := fun h => hlp (ln_eq_zero.2 h)
    rw [← cells_append, ← hl] at hown1
    rw [← dig_shift hne] at hown1
    have HO1 := Hd.mk hown1
    clear hown1
    go_ret
    exact ⟨_, rfl, HO1.out, (below_alloc (Below.refl w.heap.size w) _).grown hg1 (by simp) (fun j e => by cases e; exact Nat.le_refl _)⟩
theorem pow_r {r : Nat} (h : r < 32) : 2 ^ r * 2 ^ (32 - r) = 4294967296 ∧ 0 < 2 ^ r := by
  rw [← Nat.pow_add, show r + (32 - r) = 32 from by omega]
  exact ⟨by decide, Nat.pow_pos (by decide)⟩
/-- The low word of a shifted word has no bit in common with what was shifted out below. -/
theorem or_shift {o x r : Nat} (hr : r < 32) (ho : o < 2 ^ r) (hx : x < 4294967296) : o ||| (x * 2 ^ r % 4294967296) = o + x * 2 ^ r % 4294967296 := by
  obtain ⟨h1, h2⟩ := pow_r hr
  have e : x * 2 ^ r % 4294967296 = 2 ^ r * (x % 2 ^ (32 - r)) := by
    rw [← h1, Nat.mul_comm x, Nat.mul_mod_mul_left]
  rw [e, Nat.or_comm, Nat.add_comm]
  exact (Nat.two_pow_add_eq_or_of_lt ho _).symm
theorem shl_word {x r : Nat} (hr : r < 32) (hx : x < 4294967296) : x * 2 ^ r < 18446744073709551616 ∧ x * 2 ^ r / 4294967296 < 2 ^ r := by
  obtain ⟨h1, h2⟩ := pow_r hr
  have h3 : 2 ^ r ≤ 2 ^ 31 := Nat.pow_le_pow_right (by decide) (by omega)
  have h4 : (2 : Nat) ^ 31 = 2147483648 := by decide
  have h5 : x * 2 ^ r < 4294967296 * 2 ^ r := Nat.mul_lt_mul_of_pos_right hx h2
  constructor
  · omega
  · rw [Nat.div_lt_iff_lt_mul (by decide), Nat.mul_comm (2 ^ r)]
    exact h5
theorem val_two_sets {ds : List Nat} {k o lo hi V : Nat} (hl : k + 1 < ds.length) (ho : ds.getD k 0 = o) (hz : ds.getD (k + 1) 0 = 0) (h : val ds = V) :
    val ((ds.set k (o + lo)).set (k + 1) hi) = V + B ^ k * (lo + B * hi) := by
  have e1 := val_set (ds := ds) (i := k) (by omega) (o + lo)
  have e2 := val_set (ds := ds.set k (o + lo)) (i := k + 1) (by rw [List.length_set]; exact hl) hi
  rw [getD_set_ne (by omega), hz] at e2
  rw [ho, Nat.mul_add] at e1
  simp only [Nat.pow_succ, Nat.mul_assoc] at e2
  rw [Nat.mul_add]
  omega
set_option maxHeartbeats 1000000 in
set_option maxRecDepth 100000 in
theorem shl_calls (A1 : Option Addr) (c1 n s : Nat) (w : World) (h1 : NN w A1 c1 n) (l1 : ln n ≤ 536870912) (l2 : s ≤ 1073741824) :
    Calls Try.prog 79 #[.slice A1 (ln n) c1, .int .i64 (s : Int)] w (RetO (n * 2 ^ s) w) := by
  have HX := Hd.mk h1
  clear h1
  obtain ⟨r, hr⟩ : ∃ r, r = s % 32 := ⟨_, rfl⟩
  obtain ⟨q, hq⟩ : ∃ q, q = s / 32 := ⟨_, rfl⟩
  have hr32 : r < 32 := by omega
  have hsr : (s : Int) % 32 = (r : Int) := by omega
  have hsq : (s : Int) / 32 = (q : Int) := by omega
  have hss : n * 2 ^ s = n * 2 ^ r * B ^ q := by
    rw [pow_B, Nat.mul_assoc, ← Nat.pow_add, hr, hq, Nat.mod_add_div]
  have hql : q ≤ 1073741824 := by omega
  have HSS := Hd.mk hss
  clear hss hr hq
  have hmk := fun W => make_words 68 Try.underlying68 ((ln n : Int) + 1) (ln n + 1) (by omega) (by omega) W
  go_enter Try.func79, Try.ntmps79
  go_wp2
  clear hmk
  go_loopw [15] (fun s15 wr => ∃ (k : Nat) (ds : List Nat), k ≤ ln n ∧ s15 = .int .i64 k ∧ ds.length = ln n + 1 ∧ Dg ds ∧ val ds = val ((dig n).take k) * 2 ^ r ∧ ds.getD k 0 < 2 ^ r ∧ (∀ t, k < t → ds.getD t 0 = 0) ∧ Blk wr w.heap.size 72 (cells ds) ∧ Below w.heap.size w wr) (fun s _ => ln n - (intOf s).toNat)
  case atStart => exact ⟨0, List.replicate (ln n + 1) 0, Nat.zero_le _, rfl, by simp, dg_zeros _, by rw [val_zeros]; simp [val], by rw [getD_zeros]; exact Nat.pow_pos (by decide), fun t _ => getD_zeros _ t, heap_alloc_new w _, below_alloc (Below.refl _ _) _⟩
  case round =>
    obtain ⟨k, ds, hk, rfl, hdl, hdd, hval, hlo, hzz, hblk, hbel⟩ := hrel
    have HV := Hd.mk hval
    have HK := Hd.mk hblk
    have HL := Hd.mk hdl
    have HB := Hd.mk hbel
    have HDD := Hd.mk hdd
    have HZZ := Hd.mk hzz
    have HLO := Hd.mk hlo
    clear hval hblk hdl hbel hdd hzz hlo
    by_cases hkl : k < ln n
    · obtain ⟨a1, rfl, hcell1⟩ := (HX.out.to HB.out).at_ hkl
      obtain ⟨x, hx⟩ : ∃ x, x = (dig n).getD k 0 := ⟨_, rfl⟩
      have hx1 : x < 4294967296 := by rw [hx]; exact dg_get (dg_dig _) k
      rw [← hx] at hcell1
      obtain ⟨o, ho⟩ : ∃ o, o = ds.getD k 0 := ⟨_, rfl⟩
      have hck := HK.out.at_ (i := k) (by have := HL.out; omega)
      have hfz := HK.out.frozen k
      rw [← ho] at hck
      obtain ⟨t, ht⟩ : ∃ t, t = x * 2 ^ r := ⟨_, rfl⟩
      obtain ⟨hs1, hs2⟩ := shl_word hr32 hx1
      have hor := or_shift hr32 (by rw [ho]; exact HLO.out : o < 2 ^ r) hx1
      rw [← ht] at hs1 hs2 hor
      have hol : o < 4294967296 := by rw [ho]; exact dg_get HDD.out k
      obtain ⟨lo, hlo⟩ : ∃ lo, lo = t % 4294967296 := ⟨_, rfl⟩
      obtain ⟨hi, hhi⟩ : ∃ hi, hi = t / 4294967296 := ⟨_, rfl⟩
      rw [← hlo] at hor
      rw [← hhi] at hs2
      have hsum : o + lo < 4294967296 := by
        have h1 : o ||| lo < 2 ^ 32 := Nat.or_lt_two_pow (by omega) (by omega)
        rw [hor] at h1
        omega
      have hhil : hi < 4294967296 := by omega
      have e1 : IntKind.u64.wrap ((x : Int) * 2 ^ r) = (t : Int) := by
        have : ((x : Int) * 2 ^ r) = (t : Int) := by rw [ht]; simp
        rw [this, IntKind.wrap_u64]
        omega
      have e2 : (t : Int) % 4294967296 = (lo : Int) := by omega
      have e3 : (t : Int) / 4294967296 = (hi : Int) := by omega
      obtain ⟨ol, hol2⟩ : ∃ ol, ol = o + lo := ⟨_, rfl⟩
      have e4 : bits .or .u32 (o : Int) (lo : Int) = (ol : Int) := by rw [u32_or_nat _ _ (by omega) (by omega), hor, hol2]
      have hput := HK.out.put k ol
      have hput2 := hput.put (k + 1) hi
      have hck2 := HK.out.at_ (i := k + 1) (by have := HL.out; omega)
      rw [HZZ.out (k + 1) (by omega)] at hck2
      have hfz2 := HK.out.frozen (k + 1)
      rw [← hol2] at hsum
      have hnew := val_two_sets (ds := ds) (k := k) (o := o) (lo := lo) (hi := hi) (by have := HL.out; omega) ho.symm (HZZ.out (k + 1) (by omega)) HV.out
      rw [← hol2] at hnew
      have hnew2 : val ((ds.set k ol).set (k + 1) hi) = val ((dig n).take (k + 1)) * 2 ^ r := by
        rw [hnew, val_take_next, ← hx, Nat.add_mul, Nat.mul_assoc, ← ht]
        congr 2
        rw [hlo, hhi]
        exact Nat.mod_add_div _ _
      have hg1 : ((ds.set k ol).set (k + 1) hi).getD (k + 1) 0 = hi := by
        have h1 := HL.out
        rw [List.getD_eq_getElem?_getD, List.getElem?_set_self (by rw [List.length_set]; omega)]
        rfl
      have HN := Hd.mk hnew2
      have HP := Hd.mk hput2
      have HG := Hd.mk hg1
      have HS2 := Hd.mk hs2
      clear hput hput2 hnew hnew2 hor hx ho ht hlo hhi hg1 hol2
      go_wp2_with fail
      go_roundw
      case rel =>
        refine ⟨k + 1, (ds.set k ol).set (k + 1) hi, by omega, by go_num, by rw [List.length_set, List.length_set]; exact HL.out, dg_set (dg_set HDD.out _ hsum) _ hhil, HN.out, by rw [HG.out]; exact HS2.out, fun t ht => ?_, HP.out, below_set (below_set HB.out (Nat.le_refl _) _) (Nat.le_refl _) _⟩
        rw [getD_set_ne (by omega), getD_set_ne (by omega)]
        exact HZZ.out t (by omega)
      case measure => simp [intOf]; omega
    · have hke : k = ln n := by omega
      subst hke
      have hv2 : val ds = n * 2 ^ r := by
        rw [HV.out, val_take_all (Nat.le_refl _)]
      have hc := norm_calls (some ⟨w.heap.size, 0, none⟩) (ln n + 1) ds _ HK.out.reads HDD.out (by have := HL.out; omega) (by omega)
      have hrn := HK.out.reads.of_take HDD.out
      rw [HL.out, hv2] at hc
      rw [hv2] at hrn
      have hfin : ln (n * 2 ^ r) ≤ ln n + 1 := by
        rw [← hv2]
        have := val_lt HDD.out
        rw [HL.out] at this
        exact ln_le this
      have HC := Hd.mk hc
      have HNN : Hd (NN wr (some ⟨w.heap.size, 0, none⟩) (ln n + 1) (n * 2 ^ r)) := ⟨⟨hrn, hfin, by omega⟩⟩
      have HWO := Hd.mk (fun W (hW : Below wr.heap.size wr W) => words_own (some ⟨w.heap.size, 0, none⟩) (ln n + 1) (n * 2 ^ r) q W (HNN.out.to hW) (by omega) hql)
      rw [← HSS.out] at HWO
      clear hv2 hc hrn HNN
      go_wp2_with (first | (go_at_call 121; refine HC.out.mono ?_; rintro e w' ⟨rfl, rfl⟩) | (go_at_call 122; refine (HWO.out _ (Below.refl _ _)).mono ?_; rintro e w' ⟨v, rfl, ho, hb⟩; have HO := Hd.mk ho; have HB' := Hd.mk hb; clear ho hb))
      go_ret
      exact ⟨_, rfl, ownsRow_mono HO.out HB.out.size, below_then HB.out HB.out.size HB'.out⟩
end Go.Proofs.Ytcjcpfafalkceaa
