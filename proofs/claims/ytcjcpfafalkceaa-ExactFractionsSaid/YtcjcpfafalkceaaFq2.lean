/- Part 2 of the texts behind this claim. -/
import Derived.Test.YtcjcpfafalkceaaFq1
set_option linter.unusedVariables false
namespace Go.Proofs.Ytcjcpfafalkceaa
open Go.RowKit
theorem norm_calls (A : Option Addr) (c : Nat) (xs : List Nat) (w : World) (hr : RN w A xs) (hd : Dg xs) (hc : xs.length ≤ c) (hm : c ≤ 9223372036854775807) :
    Calls Try.prog 121 #[.slice A xs.length c] w fun e w' => e = .returned (.slice A (ln (val xs)) c) ∧ w = w' := by
  have HR := Hd.mk hr
  have HD := Hd.mk hd
  clear hr hd
  go_enter Try.func121, Try.ntmps121
  go_wp2
  go_loop [0] (fun v => ∃ k : Nat, k ≤ xs.length ∧ v = .slice A k c ∧ val (xs.take k) = val xs) (fun v => match v with | .slice _ n _ => n | _ => 0)
  case atStart => exact ⟨xs.length, Nat.le_refl _, rfl, by rw [List.take_length]⟩
  case round =>
    obtain ⟨k, hk, rfl, hv⟩ := hrel
    have HV := Hd.mk hv
    clear hv
    by_cases hk0 : 0 < k
    · obtain ⟨ad, rfl, hcell⟩ := RN.at_ HR.out (k := k - 1) (by omega)
      by_cases hz : xs.getD (k - 1) 0 = 0
      · rw [hz] at hcell
        have HZ := Hd.mk hz
        clear hz
        go_wp2
        go_round
        case rel =>
          refine ⟨k - 1, by omega, rfl, ?_⟩
          rw [← HV.out]
          have := val_take_succ (xs := xs) (k := k - 1) (by omega)
          rw [show k - 1 + 1 = k from by omega, HZ.out] at this
          rw [this]; simp
        case measure => show k - 1 < k; omega
      · have hne : (((xs.getD (k - 1) 0 : Nat) : Int) == 0) = false := by rw [beq_eq_false_iff_ne]; omega
        have HZ := Hd.mk hz
        clear hz
        generalize hx : ((xs.getD (k - 1) 0 : Nat) : Int) = x at hcell hne
        clear hx
        go_wp2
        go_ret
        refine ⟨?_, rfl⟩
        have := dig_take HD.out hk HV.out (fun j hj => by rw [show j = k - 1 from by omega]; exact HZ.out)
        unfold ln
        rw [this, List.length_take, Nat.min_eq_left hk]
        rfl
    · have : k = 0 := by omega
      subst this
      go_wp2
      go_ret
      refine ⟨?_, rfl⟩
      have := HV.out
      rw [← this]
      simp [val, ln_zero]
theorem zero_calls (A : Option Addr) (n c : Nat) (w : World) (hn : n ≤ 9223372036854775807) :
    Calls Try.prog 89 #[.slice A n c] w fun e w' => e = .returned (.bool (decide (n = 0))) ∧ w = w' := by
  go_enter Try.func89, Try.ntmps89
  go_wp2
  go_ret
  exact ⟨ret_bool (by rw [Bool.eq_iff_iff]; simp), rfl⟩
theorem zero_is (b : Bool) (A : Option Addr) (n c : Nat) (w : World) (hn : n ≤ 9223372036854775807) (hb : decide (n = 0) = b) :
    Calls Try.prog 89 #[.slice A n c] w fun e w' => e = .returned (.bool b) ∧ w' = w := (zero_calls A n c w hn).mono fun e w' ⟨a, k⟩ => ⟨by rw [a, hb], k.symm⟩
theorem zero_eq (b : Bool) (A : Option Addr) (n c : Nat) (w : World) (hn : n ≤ 9223372036854775807) (hb : decide (n = 0) = b) :
    Calls Try.prog 89 #[.slice A n c] w fun e w' => e = .returned (.bool b) ∧ w = w' := (zero_calls A n c w hn).mono fun e w' ⟨a, k⟩ => ⟨by rw [a, hb], k⟩
theorem small_calls (n : Nat) (hn : n / B < B) (w : World) :
    Calls Try.prog 78 #[.int .u64 (n : Int)] w (RetN n w) := by
  unfold B at hn
  have hb : Blk (w.alloc (.cells #[.int .u32 ((n : Int) % 4294967296), .int .u32 ((n : Int) / 4294967296)] 72)) w.heap.size 72 (cells [n % 4294967296, n / 4294967296]) := heap_alloc_new w _
  have hv : val [n % 4294967296, n / 4294967296] = n := by simp only [val, B]; omega
  have hd : Dg [n % 4294967296, n / 4294967296] := by
    intro x hx
    simp at hx
    unfold B
    omega
  have HC := Hd.mk (norm_calls (some ⟨w.heap.size, 0, none⟩) 2 _ _ hb.reads hd (Nat.le_refl 2) (by omega))
  have HR := Hd.mk (RN.of_take hb.reads hd)
  rw [hv] at HC HR
  have HV := Hd.mk hv
  clear hb hv hd
  go_enter Try.func78, Try.ntmps78
  go_wp2_with (first | (go_at_call 121; refine HC.out.mono ?_; rintro e w1 ⟨rfl, rfl⟩))
  go_ret
  exact ⟨_, _, rfl, ⟨HR.out, ln_le (by show n < B ^ 2; simp only [B]; omega), by omega⟩, below_alloc (Below.refl _ _) _⟩
def cmpv (m n : Nat) : Int := if m < n then -1 else if m = n then 0 else 1
theorem cmp_calls (A1 : Option Addr) (c1 m : Nat) (A2 : Option Addr) (c2 n : Nat) (w : World) (h1 : NN w A1 c1 m) (h2 : NN w A2 c2 n) :
    Calls Try.prog 115 #[.slice A1 (ln m) c1, .slice A2 (ln n) c2] w fun e w' => e = .returned (.int .i64 (cmpv m n)) ∧ ∃ q, w' = w.drewN q := by
  have H1 := Hd.mk h1
  have H2 := Hd.mk h2
  have hc1 : ln m ≤ 9223372036854775807 := Nat.le_trans h1.2.1 h1.2.2
  have hc2 : ln n ≤ 9223372036854775807 := Nat.le_trans h2.2.1 h2.2.2
  clear h1 h2
  by_cases hlt : ln m < ln n
  · have hv : cmpv m n = -1 := by
      unfold cmpv
      rw [if_pos]
      rcases Nat.lt_or_ge m n with h | h
      · exact h
      · have := ln_mono h; omega
    rw [hv]
    clear hv
    have hne : ((ln m : Int) != (ln n : Int)) = true := by rw [bne_iff_ne]; omega
    go_enter Try.func115, Try.ntmps115
    go_wp2
    go_ret
    exact ⟨rfl, 0, rfl⟩
  · by_cases hgt : ln n < ln m
    · have hv : cmpv m n = 1 := by
        have hnm : n < m := by
          rcases Nat.lt_or_ge n m with h | h
          · exact h
          · have := ln_mono h; omega
        unfold cmpv
        rw [if_neg (by omega), if_neg (by omega)]
      rw [hv]
      clear hv
      have hne : ((ln m : Int) != (ln n : Int)) = true := by rw [bne_iff_ne]; omega
      go_enter Try.func115, Try.ntmps115
      go_wp2
      go_ret
      exact ⟨rfl, 0, rfl⟩
    · have hl : ln m = ln n := by omega
      have HL := Hd.mk hl
      have hne : ((ln m : Int) != (ln n : Int)) = false := by rw [bne_eq_false_iff_eq]; omega
      clear hl
      go_enter Try.func115, Try.ntmps115
      go_wp2
      go_loopw [5] (fun s wr => ∃ k : Nat, k ≤ ln m ∧ s = .int .i64 ((k : Int) - 1) ∧ (dig m).drop k = (dig n).drop k ∧ ∃ q, wr = w.drewN q) (fun s _ => (intOf s + 1).toNat)
      case atStart => exact ⟨ln m, Nat.le_refl _, rfl, by rw [List.drop_eq_nil_of_le (show (dig m).length ≤ ln m from Nat.le_refl _), List.drop_eq_nil_of_le (show (dig n).length ≤ ln m from by have := HL.out; unfold ln at this ⊢; omega)], 0, rfl⟩
      case round =>
        obtain ⟨k, hk, rfl, hd, q, rfl⟩ := hrel
        have HDR := Hd.mk hd
        clear hd
        rcases k with _ | k
        · go_wp2
          go_ret
          refine ⟨?_, q, rfl⟩
          have he : m = n := dig_inj (by simpa using HDR.out)
          subst he
          exact ret_int (by unfold cmpv; simp)
        · obtain ⟨a1, rfl, hcell1⟩ := H1.out.at_ (k := k) (by omega)
          obtain ⟨a2, rfl, hcell2⟩ := H2.out.at_ (k := k) (by have := HL.out; omega)
          obtain ⟨x, hx⟩ : ∃ x, x = (dig m).getD k 0 := ⟨_, rfl⟩
          obtain ⟨y, hy⟩ : ∃ y, y = (dig n).getD k 0 := ⟨_, rfl⟩
          rw [← hx] at hcell1
          rw [← hy] at hcell2
          have HX := Hd.mk hx
          have HY := Hd.mk hy
          clear hx hy
          have e1 : ((k + 1 : Nat) : Int) - 1 = (k : Int) := by omega
          rw [e1]
          by_cases hxy : x = y
          · have hn1 : ((x : Int) != (y : Int)) = false := by rw [bne_eq_false_iff_eq]; omega
            have HXY := Hd.mk hxy
            clear hxy
            go_wp2_with fail
            go_quiet (fail)
            go_wp2_with fail
            go_roundw
            case rel => exact ⟨k, by omega, rfl, drop_pred (by omega) (by have := HL.out; omega) HDR.out (by rw [← HX.out, ← HY.out, HXY.out]), _, rfl⟩
            case measure => simp [intOf]
          · have hn1 : ((x : Int) != (y : Int)) = true := by rw [bne_iff_ne]; omega
            rcases Nat.lt_or_ge x y with hlt2 | hge2
            · have hv : cmpv m n = -1 := by unfold cmpv; rw [if_pos (lt_of_digit (by omega) (by have := HL.out; omega) HDR.out (by rw [← HX.out, ← HY.out]; exact hlt2))]
              have HV := Hd.mk hv
              clear hv hxy
              go_wp2_with fail
              go_quiet (fail)
              go_wp2_with fail
              go_quiet (fail)
              go_wp2_with fail
              go_ret
              exact ⟨by rw [HV.out]; rfl, _, by rw [World.drewN_drewN, World.drewN_drewN]⟩
            · have hnm := lt_of_digit (m := n) (n := m) (k := k) (by have := HL.out; omega) (by omega) HDR.out.symm (by rw [← HX.out, ← HY.out]; omega)
              have hv : cmpv m n = 1 := by unfold cmpv; rw [if_neg (by omega), if_neg (by omega)]
              have HV := Hd.mk hv
              clear hv hnm
              have hge3 : ¬ (x : Int) < (y : Int) := by omega
              clear hxy
              go_wp2_with fail
              go_quiet (fail)
              go_wp2_with fail
              go_quiet (fail)
              go_wp2_with fail
              go_ret
              exact ⟨by rw [HV.out]; rfl, _, by rw [World.drewN_drewN, World.drewN_drewN]⟩
theorem add32_calls (x y c : Nat) (hx : x < 4294967296) (hy : y < 4294967296) (hc : c ≤ 1) (w : World) :
    Calls Try.prog 120 #[.int .u32 (x : Int), .int .u32 (y : Int), .int .u32 (c : Int)] w fun e w' => e = .returned (.tuple #[.int .u32 (((x + y + c) % 4294967296 : Nat) : Int), .int .u32 (((x + y + c) / 4294967296 : Nat) : Int)]) ∧ w = w' := by
  have e1 : (((x + y + c) % 4294967296 : Nat) : Int) = ((x : Int) + y + c) % 4294967296 := by omega
  have e2 : (((x + y + c) / 4294967296 : Nat) : Int) = ((x : Int) + y + c) / 4294967296 := by omega
  rw [e1, e2]
  clear e1 e2
  go_enter Try.func120, Try.ntmps120
  go_wp2
  go_ret2
  exact ⟨rfl, rfl⟩
theorem sub32_calls (x y c : Nat) (hx : x < 4294967296) (hy : y < 4294967296) (hc : c ≤ 1) (w : World) :
    Calls Try.prog 136 #[.int .u32 (x : Int), .int .u32 (y : Int), .int .u32 (c : Int)] w fun e w' => e = .returned (.tuple #[.int .u32 (((4294967296 + x - y - c) % 4294967296 : Nat) : Int), .int .u32 ((if x < y + c then 1 else 0 : Nat) : Int)]) ∧ w = w' := by
  have hd : (4294967296 + x - y - c) % 4294967296 < 4294967296 := Nat.mod_lt _ (by decide)
  have hm : (4294967295 : Nat) < 2 ^ 32 := by decide
  have b1 : bits .xor .u32 IntKind.u32.max (x : Int) = ((4294967295 ^^^ x : Nat) : Int) := u32_xor_nat 4294967295 x (by decide) hx
  have b2 : bits .xor .u32 (x : Int) (y : Int) = ((x ^^^ y : Nat) : Int) := u32_xor_nat x y hx hy
  have l1 : 4294967295 ^^^ x < 2 ^ 32 := Nat.xor_lt_two_pow hm hx
  have l2 : x ^^^ y < 2 ^ 32 := Nat.xor_lt_two_pow hx hy
  have l3 : 4294967295 ^^^ (x ^^^ y) < 2 ^ 32 := Nat.xor_lt_two_pow hm l2
  have b3 : bits .xor .u32 IntKind.u32.max ((x ^^^ y : Nat) : Int) = ((4294967295 ^^^ (x ^^^ y) : Nat) : Int) := u32_xor_nat 4294967295 (x ^^^ y) (by decide) l2
  have b4 : bits .and .u32 ((4294967295 ^^^ x : Nat) : Int) (y : Int) = (((4294967295 ^^^ x) &&& y : Nat) : Int) := u32_and_nat _ y l1 hy
  have e1 : ((x : Int) - y - c) % 4294967296 = (((4294967296 + x - y - c) % 4294967296 : Nat) : Int) := by omega
  have b5 : bits .and .u32 ((4294967295 ^^^ (x ^^^ y) : Nat) : Int) (((4294967296 + x - y - c) % 4294967296 : Nat) : Int) = (((4294967295 ^^^ (x ^^^ y)) &&& ((4294967296 + x - y - c) % 4294967296) : Nat) : Int) := u32_and_nat _ _ l3 hd
  have b6 : bits .or .u32 (((4294967295 ^^^ x) &&& y : Nat) : Int) (((4294967295 ^^^ (x ^^^ y)) &&& ((4294967296 + x - y - c) % 4294967296) : Nat) : Int) = ((((4294967295 ^^^ x) &&& y) ||| ((4294967295 ^^^ (x ^^^ y)) &&& ((4294967296 + x - y - c) % 4294967296)) : Nat) : Int) := u32_or_nat _ _ (show _ < 2 ^ 32 from Nat.and_lt_two_pow _ hy) (show _ < 2 ^ 32 from Nat.and_lt_two_pow _ hd)
  have fin : bits .or .u32 (bits .and .u32 (bits .xor .u32 IntKind.u32.max (x : Int)) (y : Int)) (bits .and .u32 (bits .xor .u32 IntKind.u32.max (bits .xor .u32 (x : Int) (y : Int))) (((x : Int) - y - c) % 4294967296)) / 2147483648 = ((if x < y + c then 1 else 0 : Nat) : Int) := by
    rw [b1, b2, b3, b4, e1, b5, b6, ← borrow_law hx hy hc]
    exact (Int.natCast_ediv _ _).symm
  have FIN := Hd.mk fin
  have E1 := Hd.mk e1
  clear fin e1 b1 b2 b3 b4 b5 b6 l1 l2 l3 hm hd
  obtain ⟨z, hz⟩ : ∃ z : Nat, z = (if x < y + c then 1 else 0 : Nat) := ⟨_, rfl⟩
  rw [← hz]
  have FIN2 : Hd (bits .or .u32 (bits .and .u32 (bits .xor .u32 IntKind.u32.max (x : Int)) (y : Int)) (bits .and .u32 (bits .xor .u32 IntKind.u32.max (bits .xor .u32 (x : Int) (y : Int))) (((x : Int) - y - c) % 4294967296)) / 2147483648 = (z : Int)) := ⟨by rw [hz]; exact FIN.out⟩
  rw [← E1.out]
  clear FIN E1 hz
  go_enter Try.func136, Try.ntmps136
  go_wp2
  go_ret2
  refine ⟨?_, rfl⟩
  rw [← FIN2.out]
  rfl
end Go.Proofs.Ytcjcpfafalkceaa
set_option linter.unusedVariables false
namespace Go.Proofs.Ytcjcpfafalkceaa
open Go.RowKit
set_option maxRecDepth 100000 in
theorem add_calls (A1 : Option Addr) (c1 m : Nat) (A2 : Option Addr) (c2 n : Nat) (w : World) (h1 : NN w A1 c1 m) (h2 : NN w A2 c2 n) (l1 : ln m ≤ 1073741824) (l2 : ln n ≤ 1073741824) :
    Calls Try.prog 77 #[.slice A1 (ln m) c1, .slice A2 (ln n) c2] w (RetN (m + n) w) := by
  by_cases hlt : ln m < ln n
  · have HX := Hd.mk h2
    have HY := Hd.mk h1
    clear h1 h2
    have hgt := Nat.le_of_not_lt (fun h => by omega : ¬ ln n < ln m)
    have hmk := fun W => make_words 68 Try.underlying68 ((ln n : Int) + 1) (ln n + 1) (by omega) (by omega) W
    go_enter Try.func77, Try.ntmps77
    go_wp2
    clear hmk
    go_loopw [6, 22] (fun s6 s22 wr => ∃ (k cy : Nat) (ds : List Nat), k ≤ ln n ∧ s22 = .int .i64 k ∧ s6 = .int .u32 ((cy : Nat) : Int) ∧ cy ≤ 1 ∧ ds.length = k ∧ Dg ds ∧ val ds + B ^ k * cy = val ((dig n).take k) + val ((dig m).take k) ∧ Blk wr w.heap.size 72 (cells (ds ++ List.replicate (ln n + 1 - k) 0)) ∧ Below w.heap.size w wr) (fun _ s22 _ => ln n - (intOf s22).toNat)
    case atStart => exact ⟨0, 0, [], Nat.zero_le _, rfl, rfl, Nat.zero_le _, rfl, (fun x hx => by cases hx), by simp [val], heap_alloc_new w _, below_alloc (Below.refl _ _) _⟩
    case round =>
      obtain ⟨k, cy, ds, hk, rfl, rfl, hcy, hdl, hdd, hval, hblk, hbel⟩ := hrel
      have HV := Hd.mk hval
      have HK := Hd.mk hblk
      have HL := Hd.mk hdl
      have HB := Hd.mk hbel
      have HDD := Hd.mk hdd
      have hfz := hblk.frozen k
      have hck := hblk.at_ (i := k) (by simp; omega)
      clear hval hblk hdl hbel hdd
      by_cases hkl : k < ln n
      · obtain ⟨a1, rfl, hcell1⟩ := (HX.out.to HB.out).at_ hkl
        obtain ⟨dx, hdx⟩ : ∃ dx, dx = (dig n).getD k 0 := ⟨_, rfl⟩
        have hdx1 : dx < 4294967296 := by rw [hdx]; exact dg_get (dg_dig _) k
        obtain ⟨dy, hdy⟩ : ∃ dy, dy = (dig m).getD k 0 := ⟨_, rfl⟩
        have hdy1 : dy < 4294967296 := by rw [hdy]; exact dg_get (dg_dig _) k
        rw [← hdx] at hcell1
        have hz := get_zero ds (ln n + 1 - k) k (by have := HL.out; omega)
        rw [hz] at hck
        have hrel' : val (ds ++ [(dx + dy + cy) % 4294967296]) + B ^ (k + 1) * ((dx + dy + cy) / 4294967296) = val ((dig n).take (k + 1)) + val ((dig m).take (k + 1)) := by
          rw [val_take_next, val_take_next, ← hdx, ← hdy]
          exact add_step HL.out HV.out
        have hput : Blk (wr.setCell ⟨w.heap.size, k, none⟩ (.int .u32 (((dx + dy + cy) % 4294967296 : Nat) : Int))) w.heap.size 72 (cells ((ds ++ [(dx + dy + cy) % 4294967296]) ++ List.replicate (ln n + 1 - (k + 1)) 0)) := by
          have := HK.out.put k ((dx + dy + cy) % 4294967296)
          rw [← HL.out, set_next ds _ _ (by have := HL.out; omega)] at this
          rw [← HL.out]
          exact this
        have HR := Hd.mk hrel'
        have HP := Hd.mk hput
        have HDY := Hd.mk hdy
        clear hrel' hput hz hdx
        by_cases hkq : k < ln m
        · obtain ⟨a2, rfl, hcell2⟩ := (HY.out.to HB.out).at_ hkq
          rw [← hdy] at hcell2
          clear hdy
          go_wp2_with (first | (go_at_call 120; refine (add32_calls dx dy cy hdx1 hdy1 hcy _).mono ?_; rintro e w' ⟨rfl, rfl⟩))
          go_roundw
          case rel => exact ⟨k + 1, (dx + dy + cy) / 4294967296, ds ++ [(dx + dy + cy) % 4294967296], by omega, by go_num, rfl, by omega, by rw [List.length_append, HL.out]; rfl, dg_append HDD.out (mod_dg _), HR.out, HP.out, below_set HB.out (Nat.le_refl _) _⟩
          case measure => simp [intOf]; omega
        · have hdy0 : dy = 0 := by rw [hdy]; exact getD_zero_of_le (by unfold ln at hkq; omega)
          subst hdy0
          clear hdy
          go_wp2_with (first | (go_at_call 120; refine (add32_calls dx 0 cy hdx1 hdy1 hcy _).mono ?_; rintro e w' ⟨rfl, rfl⟩))
          go_roundw
          case rel => exact ⟨k + 1, (dx + 0 + cy) / 4294967296, ds ++ [(dx + 0 + cy) % 4294967296], by omega, by go_num, rfl, by omega, by rw [List.length_append, HL.out]; rfl, dg_append HDD.out (mod_dg _), HR.out, HP.out, below_set HB.out (Nat.le_refl _) _⟩
          case measure => simp [intOf]; omega
      · have hke : k = ln n := by omega
        subst hke
        have hput : Blk (wr.setCell ⟨w.heap.size, ln n, none⟩ (.int .u32 ((cy : Nat) : Int))) w.heap.size 72 (cells (ds ++ [cy])) := by
          have := HK.out.put (ln n) cy
          rw [← HL.out, set_next ds _ _ (by have := HL.out; omega)] at this
          rw [← HL.out]
          simpa using this
        have hdd2 : Dg (ds ++ [cy]) := dg_append HDD.out (dg_one (by unfold B; omega))
        have hv2 : val (ds ++ [cy]) = m + n := by
          rw [val_snoc, HL.out, HV.out, val_take_all (Nat.le_refl _), val_take_all hgt]
          all_goals omega
        have hlen : (ds ++ [cy]).length = ln n + 1 := by rw [List.length_append, HL.out]; rfl
        have hc := norm_calls (some ⟨w.heap.size, 0, none⟩) (ln n + 1) (ds ++ [cy]) _ hput.reads hdd2 (by omega) (by omega)
        have hrn := hput.reads.of_take hdd2
        rw [hlen, hv2] at hc
        rw [hv2] at hrn
        have hfin : ln (m + n) ≤ ln n + 1 := Nat.le_trans (ln_add m n) (by omega)
        have HC := Hd.mk hc
        have HRN := Hd.mk hrn
        clear hput hdd2 hv2 hlen hc hrn
        go_wp2_with (first | (go_at_call 121; refine HC.out.mono ?_; rintro e w' ⟨rfl, rfl⟩))
        go_ret
        exact ⟨_, _, rfl, ⟨HRN.out, hfin, by omega⟩, below_set HB.out (Nat.le_refl _) _⟩
  · have HX := Hd.mk h1
    have HY := Hd.mk h2
    clear h1 h2
    have hgt := Nat.le_of_not_lt (fun h => by omega : ¬ ln m < ln n)
    have hmk := fun W => make_words 68 Try.underlying68 ((ln m : Int) + 1) (ln m + 1) (by omega) (by omega) W
    go_enter Try.func77, Try.ntmps77
    go_wp2
    clear hmk
    go_loopw [6, 22] (fun s6 s22 wr => ∃ (k cy : Nat) (ds : List Nat), k ≤ ln m ∧ s22 = .int .i64 k ∧ s6 = .int .u32 ((cy : Nat) : Int) ∧ cy ≤ 1 ∧ ds.length = k ∧ Dg ds ∧ val ds + B ^ k * cy = val ((dig m).take k) + val ((dig n).take k) ∧ Blk wr w.heap.size 72 (cells (ds ++ List.replicate (ln m + 1 - k) 0)) ∧ Below w.heap.size w wr) (fun _ s22 _ => ln m - (intOf s22).toNat)
    case atStart => exact ⟨0, 0, [], Nat.zero_le _, rfl, rfl, Nat.zero_le _, rfl, (fun x hx => by cases hx), by simp [val], heap_alloc_new w _, below_alloc (Below.refl _ _) _⟩
    case round =>
      obtain ⟨k, cy, ds, hk, rfl, rfl, hcy, hdl, hdd, hval, hblk, hbel⟩ := hrel
      have HV := Hd.mk hval
      have HK := Hd.mk hblk
      have HL := Hd.mk hdl
      have HB := Hd.mk hbel
      have HDD := Hd.mk hdd
      have hfz := hblk.frozen k
      have hck := hblk.at_ (i := k) (by simp; omega)
      clear hval hblk hdl hbel hdd
      by_cases hkl : k < ln m
      · obtain ⟨a1, rfl, hcell1⟩ := (HX.out.to HB.out).at_ hkl
        obtain ⟨dx, hdx⟩ : ∃ dx, dx = (dig m).getD k 0 := ⟨_, rfl⟩
        have hdx1 : dx < 4294967296 := by rw [hdx]; exact dg_get (dg_dig _) k
        obtain ⟨dy, hdy⟩ : ∃ dy, dy = (dig n).getD k 0 := ⟨_, rfl⟩
        have hdy1 : dy < 4294967296 := by rw [hdy]; exact dg_get (dg_dig _) k
        rw [← hdx] at hcell1
        have hz := get_zero ds (ln m + 1 - k) k (by have := HL.out; omega)
        rw [hz] at hck
        have hrel' : val (ds ++ [(dx + dy + cy) % 4294967296]) + B ^ (k + 1) * ((dx + dy + cy) / 4294967296) = val ((dig m).take (k + 1)) + val ((dig n).take (k + 1)) := by
          rw [val_take_next, val_take_next, ← hdx, ← hdy]
          exact add_step HL.out HV.out
        have hput : Blk (wr.setCell ⟨w.heap.size, k, none⟩ (.int .u32 (((dx + dy + cy) % 4294967296 : Nat) : Int))) w.heap.size 72 (cells ((ds ++ [(dx + dy + cy) % 4294967296]) ++ List.replicate (ln m + 1 - (k + 1)) 0)) := by
          have := HK.out.put k ((dx + dy + cy) % 4294967296)
          rw [← HL.out, set_next ds _ _ (by have := HL.out; omega)] at this
          rw [← HL.out]
          exact this
        have HR := Hd.mk hrel'
        have HP := Hd.mk hput
        have HDY := Hd.mk hdy
        clear hrel' hput hz hdx
        by_cases hkq : k < ln n
        · obtain ⟨a2, rfl, hcell2⟩ := (HY.out.to HB.out).at_ hkq
          rw [← hdy] at hcell2
          clear hdy
          go_wp2_with (first | (go_at_call 120; refine (add32_calls dx dy cy hdx1 hdy1 hcy _).mono ?_; rintro e w' ⟨rfl, rfl⟩))
          go_roundw
          case rel => exact ⟨k + 1, (dx + dy + cy) / 4294967296, ds ++ [(dx + dy + cy) % 4294967296], by omega, by go_num, rfl, by omega, by rw [List.length_append, HL.out]; rfl, dg_append HDD.out (mod_dg _), HR.out, HP.out, below_set HB.out (Nat.le_refl _) _⟩
          case measure => simp [intOf]; omega
        · have hdy0 : dy = 0 := by rw [hdy]; exact getD_zero_of_le (by unfold ln at hkq; omega)
          subst hdy0
          clear hdy
          go_wp2_with (first | (go_at_call 120; refine (add32_calls dx 0 cy hdx1 hdy1 hcy _).mono ?_; rintro e w' ⟨rfl, rfl⟩))
          go_roundw
          case rel => exact ⟨k + 1, (dx + 0 + cy) / 4294967296, ds ++ [(dx + 0 + cy) % 4294967296], by omega, by go_num, rfl, by omega, by rw [List.length_append, HL.out]; rfl, dg_append HDD.out (mod_dg _), HR.out, HP.out, below_set HB.out (Nat.le_refl _) _⟩
          case measure => simp [intOf]; omega
      · have hke : k = ln m := by omega
        subst hke
        have hput : Blk (wr.setCell ⟨w.heap.size, ln m, none⟩ (.int .u32 ((cy : Nat) : Int))) w.heap.size 72 (cells (ds ++ [cy])) := by
          have := HK.out.put (ln m) cy
          rw [← HL.out, set_next ds _ _ (by have := HL.out; omega)] at this
          rw [← HL.out]
          simpa using this
        have hdd2 : Dg (ds ++ [cy]) := dg_append HDD.out (dg_one (by unfold B; omega))
        have hv2 : val (ds ++ [cy]) = m + n := by
          rw [val_snoc, HL.out, HV.out, val_take_all (Nat.le_refl _), val_take_all hgt]
          all_goals omega
        have hlen : (ds ++ [cy]).length = ln m + 1 := by rw [List.length_append, HL.out]; rfl
        have hc := norm_calls (some ⟨w.heap.size, 0, none⟩) (ln m + 1) (ds ++ [cy]) _ hput.reads hdd2 (by omega) (by omega)
        have hrn := hput.reads.of_take hdd2
        rw [hlen, hv2] at hc
        rw [hv2] at hrn
        have hfin : ln (m + n) ≤ ln m + 1 := Nat.le_trans (ln_add m n) (by omega)
        have HC := Hd.mk hc
        have HRN := Hd.mk hrn
        clear hput hdd2 hv2 hlen hc hrn
        go_wp2_with (first | (go_at_call 121; refine HC.out.mono ?_; rintro e w' ⟨rfl, rfl⟩))
        go_ret
        exact ⟨_, _, rfl, ⟨HRN.out, hfin, by omega⟩, below_set HB.out (Nat.le_refl _) _⟩
theorem sub_digit {x y c : Nat} (hx : x < 4294967296) (hy : y < 4294967296) (hc : c ≤ 1) : (4294967296 + x - y - c) % 4294967296 + y + c = x + 4294967296 * (if x < y + c then 1 else 0) := by
  split <;> omega
theorem sub_step {ds : List Nat} {k cy a b X Y : Nat} (hl : ds.length = k) (ha : a < 4294967296) (hb : b < 4294967296) (hc : cy ≤ 1) (h : val ds + Y = X + B ^ k * cy) :
    val (ds ++ [(4294967296 + a - b - cy) % 4294967296]) + (Y + B ^ k * b) = (X + B ^ k * a) + B ^ (k + 1) * (if a < b + cy then 1 else 0) := by
  have e := sub_digit ha hb hc
  generalize (4294967296 + a - b - cy) % 4294967296 = d at e ⊢
  generalize (if a < b + cy then 1 else 0 : Nat) = z at e ⊢
  rw [val_snoc, hl, Nat.pow_succ, Nat.mul_assoc]
  have e2 : B ^ k * (d + b + cy) = B ^ k * (a + B * z) := by rw [e]; rfl
  rw [Nat.mul_add, Nat.mul_add, Nat.mul_add] at e2
  omega
set_option maxRecDepth 100000 in
theorem sub_calls (A1 : Option Addr) (c1 m : Nat) (A2 : Option Addr) (c2 n : Nat) (w : World) (h1 : NN w A1 c1 m) (h2 : NN w A2 c2 n) (hnm : n ≤ m) (l1 : ln m ≤ 1073741824) :
    Calls Try.prog 116 #[.slice A1 (ln m) c1, .slice A2 (ln n) c2] w (RetN (m - n) w) := by
  have HX := Hd.mk h1
  have HY := Hd.mk h2
  clear h1 h2
  have hgt := ln_mono hnm
  have hmk := fun W => make_words 68 Try.underlying68 (ln m : Int) (ln m) (by omega) (by omega) W
  go_enter Try.func116, Try.ntmps116
  go_wp2
  clear hmk
  go_loopw [6, 14] (fun s6 s22 wr => ∃ (k cy : Nat) (ds : List Nat), k ≤ ln m ∧ s22 = .int .i64 k ∧ s6 = .int .u32 ((cy : Nat) : Int) ∧ cy ≤ 1 ∧ ds.length = k ∧ Dg ds ∧ val ds + val ((dig n).take k) = val ((dig m).take k) + B ^ k * cy ∧ Blk wr w.heap.size 72 (cells (ds ++ List.replicate (ln m - k) 0)) ∧ Below w.heap.size w wr) (fun _ s22 _ => ln m - (intOf s22).toNat)
  case atStart => exact ⟨0, 0, [], Nat.zero_le _, rfl, rfl, Nat.zero_le _, rfl, (fun x hx => by cases hx), by simp [val], heap_alloc_new w _, below_alloc (Below.refl _ _) _⟩
  case round =>
    obtain ⟨k, cy, ds, hk, rfl, rfl, hcy, hdl, hdd, hval, hblk, hbel⟩ := hrel
    have HV := Hd.mk hval
    have HK := Hd.mk hblk
    have HL := Hd.mk hdl
    have HB := Hd.mk hbel
    have HDD := Hd.mk hdd
    have hfz := hblk.frozen k
    have hck : k < ln m → _ := fun hh => hblk.at_ (i := k) (by simp; omega)
    clear hval hblk hdl hbel hdd
    by_cases hkl : k < ln m
    · have hck := hck hkl
      obtain ⟨a1, rfl, hcell1⟩ := (HX.out.to HB.out).at_ hkl
      obtain ⟨dx, hdx⟩ : ∃ dx, dx = (dig m).getD k 0 := ⟨_, rfl⟩
      have hdx1 : dx < 4294967296 := by rw [hdx]; exact dg_get (dg_dig _) k
      obtain ⟨dy, hdy⟩ : ∃ dy, dy = (dig n).getD k 0 := ⟨_, rfl⟩
      have hdy1 : dy < 4294967296 := by rw [hdy]; exact dg_get (dg_dig _) k
      rw [← hdx] at hcell1
      have hz := get_zero ds (ln m - k) k (by have := HL.out; omega)
      rw [hz] at hck
      have hrel' : val (ds ++ [(4294967296 + dx - dy - cy) % 4294967296]) + val ((dig n).take (k + 1)) = val ((dig m).take (k + 1)) + B ^ (k + 1) * (if dx < dy + cy then 1 else 0) := by
        rw [val_take_next, val_take_next, ← hdx, ← hdy]
        exact sub_step HL.out hdx1 hdy1 hcy HV.out
      have hput : Blk (wr.setCell ⟨w.heap.size, k, none⟩ (.int .u32 (((4294967296 + dx - dy - cy) % 4294967296 : Nat) : Int))) w.heap.size 72 (cells ((ds ++ [(4294967296 + dx - dy - cy) % 4294967296]) ++ List.replicate (ln m - (k + 1)) 0)) := by
        have := HK.out.put k ((4294967296 + dx - dy - cy) % 4294967296)
        rw [← HL.out, set_next ds _ _ (by have := HL.out; omega)] at this
        rw [← HL.out]
        exact this
      have hb1 : (if dx < dy + cy then 1 else 0 : Nat) ≤ 1 := by split <;> omega
      obtain ⟨bw, hbw⟩ : ∃ bw : Nat, bw = (if dx < dy + cy then 1 else 0 : Nat) := ⟨_, rfl⟩
      obtain ⟨dd, hddq⟩ : ∃ dd : Nat, dd = (4294967296 + dx - dy - cy) % 4294967296 := ⟨_, rfl⟩
      have hddl : dd < B := by rw [hddq]; exact Nat.mod_lt _ (by decide)
      have HS := Hd.mk (fun W => sub32_calls dx dy cy hdx1 hdy1 hcy W)
      rw [← hbw, ← hddq] at hrel' HS
      rw [← hddq] at hput
      rw [← hbw] at hb1
      have HR := Hd.mk hrel'
      have HP := Hd.mk hput
      have HDY := Hd.mk hdy
      clear hrel' hput hz hdx hbw hddq
      by_cases hkq : k < ln n
      · obtain ⟨a2, rfl, hcell2⟩ := (HY.out.to HB.out).at_ hkq
        rw [← hdy] at hcell2
        clear hdy
        go_wp2_with (first | (go_at_call 136; refine (HS.out _).mono ?_; rintro e w' ⟨rfl, rfl⟩))
        go_roundw
        case rel => exact ⟨k + 1, bw, ds ++ [dd], by omega, by go_num, rfl, hb1, by rw [List.length_append, HL.out]; rfl, dg_append HDD.out (dg_one hddl), HR.out, HP.out, below_set HB.out (Nat.le_refl _) _⟩
        case measure => simp [intOf]; omega
      · have hdy0 : dy = 0 := by rw [hdy]; exact getD_zero_of_le (by unfold ln at hkq; omega)
        subst hdy0
        clear hdy
        go_wp2_with (first | (go_at_call 136; refine (HS.out _).mono ?_; rintro e w' ⟨rfl, rfl⟩))
        go_roundw
        case rel => exact ⟨k + 1, bw, ds ++ [dd], by omega, by go_num, rfl, hb1, by rw [List.length_append, HL.out]; rfl, dg_append HDD.out (dg_one hddl), HR.out, HP.out, below_set HB.out (Nat.le_refl _) _⟩
        case measure => simp [intOf]; omega
    · have hke : k = ln m := by omega
      subst hke
      have hv2 : val ds = m - n := by
        have h1 := HV.out
        rw [val_take_all (Nat.le_refl _), val_take_all hgt] at h1
        have h2 := val_lt HDD.out
        rw [HL.out] at h2
        rcases Nat.lt_or_ge cy 1 with h3 | h3
        · have : cy = 0 := by omega
          subst this
          simp at h1
          omega
        · have : cy = 1 := by omega
          subst this
          simp at h1
          omega
      have hput : Blk wr w.heap.size 72 (cells ds) := by
        have := HK.out
        simpa using this
      have hc := norm_calls (some ⟨w.heap.size, 0, none⟩) (ln m) ds _ hput.reads HDD.out (by have := HL.out; omega) (by omega)
      have hrn := hput.reads.of_take HDD.out
      rw [HL.out, hv2] at hc
      rw [hv2] at hrn
      have hfin : ln (m - n) ≤ ln m := ln_mono (Nat.sub_le _ _)
      have HC := Hd.mk hc
      have HRN := Hd.mk hrn
      clear hput hv2 hc hrn hck
      go_wp2_with (first | (go_at_call 121; refine HC.out.mono ?_; rintro e w' ⟨rfl, rfl⟩))
      go_ret
      exact ⟨_, _, rfl, ⟨HRN.out, hfin, by omega⟩, HB.out⟩
end Go.Proofs.Ytcjcpfafalkceaa
