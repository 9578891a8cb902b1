/- Division by one word, and shifts down. -/
import Derived.Test.YtcjcpfafalkceaaS
set_option linter.unusedVariables false
namespace Go.Proofs.Ytcjcpfafalkceaa
open Go.RowKit
theorem or_high (h l : Nat) (hl : l < 4294967296) (hh : h < 4294967296) : bits .or .u64 ((h : Int) * 4294967296) (l : Int) = ((h * 4294967296 + l : Nat) : Int) := by
  have e : ((h : Int) * 4294967296) = ((h * 4294967296 : Nat) : Int) := by omega
  rw [e, u64_or_nat _ _ (by omega) (by omega)]
  have := Nat.two_pow_add_eq_or_of_lt (i := 32) hl h
  congr 1
  rw [Nat.mul_comm h]
  exact this.symm
/-- What is left of a number from a digit on. -/
theorem val_drop_cons {xs : List Nat} {k : Nat} (h : k < xs.length) : val (xs.drop k) = xs.getD k 0 + B * val (xs.drop (k + 1)) := by
  rw [List.drop_eq_getElem_cons h, val]
  simp [h]
theorem val_drop_set {xs : List Nat} {k : Nat} (h : k < xs.length) (q : Nat) : val ((xs.set k q).drop k) = q + B * val (xs.drop (k + 1)) := by
  have e : (xs.set k q).drop k = q :: xs.drop (k + 1) := by
    rw [List.drop_eq_getElem_cons (by rw [List.length_set]; exact h), List.drop_set_of_lt (by omega)]
    simp
  rw [e, val]
theorem div_word {r x b : Nat} (hr : r < b) (hb : b < 4294967296) (hx : x < 4294967296) : (r * 4294967296 + x) / b < 4294967296 ∧ (r * 4294967296 + x) % b < b := by
  refine ⟨?_, Nat.mod_lt _ (by omega)⟩
  rw [Nat.div_lt_iff_lt_mul (by omega)]
  have : (r + 1) * 4294967296 ≤ b * 4294967296 := Nat.mul_le_mul_right _ hr
  omega
/-- What a call leaves that hands back two numbers. -/
def RetNN (m n : Nat) (w : World) (e : Ending) (w' : World) : Prop := ∃ A c A' c', e = .returned (.tuple #[.slice A (ln m) c, .slice A' (ln n) c']) ∧ NN w' A c m ∧ NN w' A' c' n ∧ Below w.heap.size w w'
set_option maxHeartbeats 1000000 in
set_option maxRecDepth 100000 in
theorem short_calls (A1 : Option Addr) (c1 n b : Nat) (w : World) (h1 : NN w A1 c1 n) (l1 : ln n ≤ 1073741824) (hb0 : 0 < b) (hb : b < 4294967296) :
    Calls Try.prog 124 #[.slice A1 (ln n) c1, .int .u32 (b : Int)] w (RetNN (n / b) (n % b) w) := by
  have HX := Hd.mk h1
  clear h1
  have hmk := fun W => make_words 68 Try.underlying68 (ln n : Int) (ln n) (by omega) (by omega) W
  have hbz : ((b : Int) == 0) = false := by rw [beq_eq_false_iff_ne]; omega
  go_enter Try.func124, Try.ntmps124
  go_wp2
  clear hmk
  go_loopw [7, 8] (fun s7 s8 wr => ∃ (k r : Nat) (ds : List Nat), k ≤ ln n ∧ s8 = .int .i64 ((k : Int) - 1) ∧ s7 = .int .u64 (r : Int) ∧ r < b ∧ ds.length = ln n ∧ Dg ds ∧ val ((dig n).drop k) = b * val (ds.drop k) + r ∧ Blk wr w.heap.size 72 (cells ds) ∧ Below w.heap.size w wr) (fun _ s _ => (intOf s + 1).toNat)
  case atStart => exact ⟨ln n, 0, List.replicate (ln n) 0, Nat.le_refl _, rfl, rfl, hb0, by simp, dg_zeros _, by rw [List.drop_eq_nil_of_le (show (dig n).length ≤ ln n from Nat.le_refl _), List.drop_eq_nil_of_le (by simp)]; simp [val], heap_alloc_new w _, below_alloc (Below.refl _ _) _⟩
  case round =>
    obtain ⟨k, r, ds, hk, rfl, rfl, hrb, hdl, hdd, hval, hblk, hbel⟩ := hrel
    have HV := Hd.mk hval
    have HK := Hd.mk hblk
    have HL := Hd.mk hdl
    have HB := Hd.mk hbel
    have HDD := Hd.mk hdd
    clear hval hblk hdl hbel hdd
    rcases k with _ | k
    · have hv : n = b * val ds + r := by have := HV.out; rwa [List.drop_zero, List.drop_zero, val_dig] at this
      have hq : val ds = n / b := by rw [hv, Nat.mul_add_div hb0, Nat.div_eq_of_lt hrb]; omega
      have hr : r = n % b := by rw [hv, Nat.mul_add_mod, Nat.mod_eq_of_lt hrb]
      have hc := norm_calls (some ⟨w.heap.size, 0, none⟩) (ln n) ds _ HK.out.reads HDD.out (by have := HL.out; omega) (by omega)
      have hrn := HK.out.reads.of_take HDD.out
      rw [HL.out, hq] at hc
      rw [hq] at hrn
      have HC := Hd.mk hc
      have HN1 : Hd (NN wr (some ⟨w.heap.size, 0, none⟩) (ln n) (n / b)) := ⟨⟨hrn, ln_mono (Nat.div_le_self _ _), by omega⟩⟩
      have HS := Hd.mk (fun W => small_calls r (by unfold B; omega) W)
      rw [hr] at HS
      have HR := Hd.mk hr
      clear hv hq hc hrn
      rw [hr] at hrb ⊢
      clear hr
      go_wp2_with (first | (go_at_call 121; refine HC.out.mono ?_; rintro e w' ⟨rfl, rfl⟩) | (go_at_call 78; refine (HS.out _).mono ?_; rintro e w' ⟨A3, c3, rfl, hn3, hb3⟩; have HN3 := Hd.mk hn3; have HB3 := Hd.mk hb3; clear hn3 hb3))
      go_ret2
      exact ⟨_, _, A3, c3, rfl, HN1.out.to HB3.out, HN3.out, below_then HB.out HB.out.size HB3.out⟩
    · obtain ⟨a1, rfl, hcell1⟩ := (HX.out.to HB.out).at_ (k := k) (by omega)
      obtain ⟨x, hx⟩ : ∃ x, x = (dig n).getD k 0 := ⟨_, rfl⟩
      have hx1 : x < 4294967296 := by rw [hx]; exact dg_get (dg_dig _) k
      rw [← hx] at hcell1
      have hck := HK.out.at_ (i := k) (by have := HL.out; omega)
      have hfz := HK.out.frozen k
      obtain ⟨t, ht⟩ : ∃ t, t = r * 4294967296 + x := ⟨_, rfl⟩
      obtain ⟨hq1, hr1⟩ := div_word hrb hb hx1
      rw [← ht] at hq1 hr1
      have hd1 := val_drop_cons (xs := dig n) (k := k) (by unfold ln at hk; omega)
      obtain ⟨q, hq⟩ : ∃ q, q = t / b := ⟨_, rfl⟩
      obtain ⟨r2, hr2⟩ : ∃ r2, r2 = t % b := ⟨_, rfl⟩
      rw [← hq] at hq1
      rw [← hr2] at hr1
      have hd2 := val_drop_set (xs := ds) (k := k) (by have := HL.out; omega) q
      have hnew : val ((dig n).drop k) = b * val ((ds.set k q).drop k) + r2 := by
        rw [hd1, hd2, HV.out, ← hx]
        have h1 : b * q + r2 = r * 4294967296 + x := by rw [hq, hr2, ← ht]; exact Nat.div_add_mod t b
        rw [Nat.mul_add, Nat.mul_add, Nat.mul_left_comm b B]
        show x + (B * (b * val (List.drop (k + 1) ds)) + 4294967296 * r) = _
        omega
      have hput := HK.out.put k q
      have e1 : bits .or .u64 ((r : Int) * 4294967296) (x : Int) = (t : Int) := by rw [or_high r x hx1 (by omega), ht]
      have e2 : (t : Int) / (b : Int) = (q : Int) := by rw [hq]; exact (Int.natCast_ediv _ _).symm
      have e3 : (t : Int) % (b : Int) = (r2 : Int) := by rw [hr2]; exact (Int.natCast_emod _ _).symm
      have e4 : (q : Int) % 4294967296 = (q : Int) := by omega
      have hr64 : r * 4294967296 ≤ 18446744073709551615 := by omega
      have e5 : ((k + 1 : Nat) : Int) - 1 = (k : Int) := by omega
      rw [e5]
      have HN := Hd.mk hnew
      have HP := Hd.mk hput
      have htl : t ≤ 18446744073709551615 := by omega
      clear hx ht hq hr2 hnew hput hd1 hd2 e5
      go_wp2_with fail
      go_roundw
      case rel => exact ⟨k, r2, ds.set k q, by omega, rfl, by rw [e3], hr1, by rw [List.length_set]; exact HL.out, dg_set HDD.out _ hq1, HN.out, HP.out, below_set HB.out (Nat.le_refl _) _⟩
      case measure => simp [intOf]
end Go.Proofs.Ytcjcpfafalkceaa
