/- Part 8 of the texts behind this claim. -/
import Derived.Test.YtcjcpfafalkceaaFq2
import Derived.Test.YtcjcpfafalkceaaFq3
set_option linter.unusedVariables false
namespace Go.Proofs.Ytcjcpfafalkceaa
open Go.RowKit
theorem trim_calls (A : Option Addr) (c : Nat) (xs : List Nat) (w : World) (hr : RN w A xs) (hd : Dg xs) (hc : xs.length ≤ c) (hm : c ≤ 9223372036854775807) :
    Calls Try.prog 123 #[.slice A xs.length c] w fun e w' => e = .returned (.slice A (ln (val xs)) c) ∧ w = w' := by
  have HR := Hd.mk hr
  have HD := Hd.mk hd
  clear hr hd
  go_enter Try.func123, Try.ntmps123
  go_wp2
  go_loop [0] (fun v => ∃ k : Nat, k ≤ xs.length ∧ v = .slice A k c ∧ val (xs.take k) = val xs) (fun v => match v with | .slice _ n _ => n | _ => 0)
  case atStart => exact ⟨xs.length, Nat.le_refl _, rfl, by rw [List.take_length]⟩
  case round =>
    obtain ⟨k, hk, rfl, hv⟩ := hrel
    have HV := Hd.mk hv
    clear hv
    by_cases hk0 : 0 < k
    · obtain ⟨ad, rfl, hcell⟩ := RN.at_ HR.out (k := k - 1) (by omega)
      by_cases hz : xs.getD (k - 1) 0 = 0
      · rw [hz] at hcell
        have HZ := Hd.mk hz
        clear hz
        go_wp2
        go_round
        case rel =>
          refine ⟨k - 1, by omega, rfl, ?_⟩
          rw [← HV.out]
          have := val_take_succ (xs := xs) (k := k - 1) (by omega)
          rw [show k - 1 + 1 = k from by omega, HZ.out] at this
          rw [this]; simp
        case measure => show k - 1 < k; omega
      · have hne : (((xs.getD (k - 1) 0 : Nat) : Int) == 0) = false := by rw [beq_eq_false_iff_ne]; omega
        have HZ := Hd.mk hz
        clear hz
        generalize hx : ((xs.getD (k - 1) 0 : Nat) : Int) = x at hcell hne
        clear hx
        go_wp2
        go_ret
        refine ⟨?_, rfl⟩
        have := dig_take HD.out hk HV.out (fun j hj => by rw [show j = k - 1 from by omega]; exact HZ.out)
        unfold ln
        rw [this, List.length_take, Nat.min_eq_left hk]
        rfl
    · have : k = 0 := by omega
      subst this
      go_wp2
      go_ret
      refine ⟨?_, rfl⟩
      have := HV.out
      rw [← this]
      simp [val, ln_zero]
theorem order_calls (A1 : Option Addr) (c1 m : Nat) (A2 : Option Addr) (c2 n : Nat) (w : World) (h1 : NN w A1 c1 m) (h2 : NN w A2 c2 n) :
    Calls Try.prog 65 #[.slice A1 (ln m) c1, .slice A2 (ln n) c2] w fun e w' => e = .returned (.int .i64 (cmpv m n)) ∧ ∃ q, w' = w.drewN q := by
  have H1 := Hd.mk h1
  have H2 := Hd.mk h2
  have hc1 : ln m ≤ 9223372036854775807 := Nat.le_trans h1.2.1 h1.2.2
  have hc2 : ln n ≤ 9223372036854775807 := Nat.le_trans h2.2.1 h2.2.2
  clear h1 h2
  by_cases hlt : ln m < ln n
  · have hv : cmpv m n = -1 := by
      unfold cmpv
      rw [if_pos]
      rcases Nat.lt_or_ge m n with h | h
      · exact h
      · have := ln_mono h; omega
    rw [hv]
    clear hv
    have hne : ((ln m : Int) != (ln n : Int)) = true := by rw [bne_iff_ne]; omega
    go_enter Try.func65, Try.ntmps65
    go_wp2
    go_ret
    exact ⟨rfl, 0, rfl⟩
  · by_cases hgt : ln n < ln m
    · have hv : cmpv m n = 1 := by
        have hnm : n < m := by
          rcases Nat.lt_or_ge n m with h | h
          · exact h
          · have := ln_mono h; omega
        unfold cmpv
        rw [if_neg (by omega), if_neg (by omega)]
      rw [hv]
      clear hv
      have hne : ((ln m : Int) != (ln n : Int)) = true := by rw [bne_iff_ne]; omega
      go_enter Try.func65, Try.ntmps65
      go_wp2
      go_ret
      exact ⟨rfl, 0, rfl⟩
    · have hl : ln m = ln n := by omega
      have HL := Hd.mk hl
      have hne : ((ln m : Int) != (ln n : Int)) = false := by rw [bne_eq_false_iff_eq]; omega
      clear hl
      go_enter Try.func65, Try.ntmps65
      go_wp2
      go_loopw [5] (fun s wr => ∃ k : Nat, k ≤ ln m ∧ s = .int .i64 ((k : Int) - 1) ∧ (dig m).drop k = (dig n).drop k ∧ ∃ q, wr = w.drewN q) (fun s _ => (intOf s + 1).toNat)
      case atStart => exact ⟨ln m, Nat.le_refl _, rfl, by rw [List.drop_eq_nil_of_le (show (dig m).length ≤ ln m from Nat.le_refl _), List.drop_eq_nil_of_le (show (dig n).length ≤ ln m from by have := HL.out; unfold ln at this ⊢; omega)], 0, rfl⟩
      case round =>
        obtain ⟨k, hk, rfl, hd, q, rfl⟩ := hrel
        have HDR := Hd.mk hd
        clear hd
        rcases k with _ | k
        · go_wp2
          go_ret
          refine ⟨?_, q, rfl⟩
          have he : m = n := dig_inj (by simpa using HDR.out)
          subst he
          exact ret_int (by unfold cmpv; simp)
        · obtain ⟨a1, rfl, hcell1⟩ := H1.out.at_ (k := k) (by omega)
          obtain ⟨a2, rfl, hcell2⟩ := H2.out.at_ (k := k) (by have := HL.out; omega)
          obtain ⟨x, hx⟩ : ∃ x, x = (dig m).getD k 0 := ⟨_, rfl⟩
          obtain ⟨y, hy⟩ : ∃ y, y = (dig n).getD k 0 := ⟨_, rfl⟩
          rw [← hx] at hcell1
          rw [← hy] at hcell2
          have HX := Hd.mk hx
          have HY := Hd.mk hy
          clear hx hy
          have e1 : ((k + 1 : Nat) : Int) - 1 = (k : Int) := by omega
          rw [e1]
          by_cases hxy : x = y
          · have hn1 : ((x : Int) != (y : Int)) = false := by rw [bne_eq_false_iff_eq]; omega
            have HXY := Hd.mk hxy
            clear hxy
            go_wp2_with fail
            go_quiet (fail)
            go_wp2_with fail
            go_roundw
            case rel => exact ⟨k, by omega, rfl, drop_pred (by omega) (by have := HL.out; omega) HDR.out (by rw [← HX.out, ← HY.out, HXY.out]), _, rfl⟩
            case measure => simp [intOf]
          · have hn1 : ((x : Int) != (y : Int)) = true := by rw [bne_iff_ne]; omega
            rcases Nat.lt_or_ge x y with hlt2 | hge2
            · have hv : cmpv m n = -1 := by unfold cmpv; rw [if_pos (lt_of_digit (by omega) (by have := HL.out; omega) HDR.out (by rw [← HX.out, ← HY.out]; exact hlt2))]
              have HV := Hd.mk hv
              clear hv hxy
              go_wp2_with fail
              go_quiet (fail)
              go_wp2_with fail
              go_quiet (fail)
              go_wp2_with fail
              go_ret
              exact ⟨by rw [HV.out]; rfl, _, by rw [World.drewN_drewN, World.drewN_drewN]⟩
            · have hnm := lt_of_digit (m := n) (n := m) (k := k) (by have := HL.out; omega) (by omega) HDR.out.symm (by rw [← HX.out, ← HY.out]; omega)
              have hv : cmpv m n = 1 := by unfold cmpv; rw [if_neg (by omega), if_neg (by omega)]
              have HV := Hd.mk hv
              clear hv hnm
              have hge3 : ¬ (x : Int) < (y : Int) := by omega
              clear hxy
              go_wp2_with fail
              go_quiet (fail)
              go_wp2_with fail
              go_quiet (fail)
              go_wp2_with fail
              go_ret
              exact ⟨by rw [HV.out]; rfl, _, by rw [World.drewN_drewN, World.drewN_drewN]⟩
end Go.Proofs.Ytcjcpfafalkceaa
set_option linter.unusedVariables false
namespace Go.Proofs.Ytcjcpfafalkceaa
open Go.RowKit
theorem run_max2_int (k k' : IntKind) (x y : Int) : Builtin.max2 (.int k x) (.int k' y) = pure (.int k (if x < y then y else x)) := by simp only [Builtin.max2, gt_iff_lt]
theorem run_max_two (ats : Array TypeId) (ty : TypeId) (a b : Value) : Builtin.max_ ats ty #[a, b] = (Builtin.max2 a b >>= fun s => pure s) := by simp only [Builtin.max_, List.foldlM_cons, List.foldlM_nil]
theorem reads_new (w : World) (t : TypeId) (x : Nat) : Reads (w.alloc (.cells #[.int .u32 ((x : Nat) : Int)] t)) (w.alloc (.cells #[.int .u32 ((x : Nat) : Int)] t)).heap.size 1 (some ⟨w.heap.size, 0, none⟩) 1 (cells [x]) :=
  (Blk.reads (ds := [x]) (heap_alloc_new w (.cells #[.int .u32 ((x : Nat) : Int)] t) : Blk _ _ t (cells [x]))).reads
theorem own_ge {w : World} {base : Nat} {e : TypeId} {s : Nat} {v : Value} {n : Nat} {xs : List Value} (h : w.ownsRow base e s v n xs) : ∀ g, v.ownBlock = some g → base ≤ g := by
  intro g hg
  rcases h.2 with ⟨rfl, _⟩ | ⟨g', cap, cur, rfl, hb, _⟩
  · cases hg
  · cases hg; exact hb
attribute [local go_sem] run_max2_int run_max_two
set_option maxRecDepth 100000 in
theorem rplus_calls (A1 : Option Addr) (c1 m : Nat) (A2 : Option Addr) (c2 n : Nat) (w : World) (h1 : NN w A1 c1 m) (h2 : NN w A2 c2 n) (l1 : ln m ≤ 1073741824) (l2 : ln n ≤ 1073741824) :
    Calls Try.prog 83 #[.slice A1 (ln m) c1, .slice A2 (ln n) c2] w (RetN (m + n) w) := by
  have HX := Hd.mk h1
  have HY := Hd.mk h2
  clear h1 h2
  by_cases hlt : ln m < ln n
  · have hmk := fun W => make_words2 36 Try.underlying36 0 ((ln n : Int) + 1) 0 (ln n + 1) rfl (by omega) (by omega) (by omega) W
    have hown : (w.alloc (.cells (cells (List.replicate (ln n + 1) 0)).toArray 72)).ownsRow w.heap.size 72 1 (.slice (some ⟨w.heap.size, 0, none⟩) 0 (ln n + 1)) 0 (cells []) := own_made (heap_alloc_new w (.cells (cells (List.replicate (ln n + 1) 0)).toArray 72)) (c := ln n + 1) (n := 0) (by simp) (by omega) (by omega) (base := w.heap.size) (Nat.le_refl _)
    have HOWN := Hd.mk hown
    clear hown
    obtain ⟨i0, hi, hz0, hz1, hz2⟩ := info_parts Try.info_word
    go_enter Try.func83, Try.ntmps83
    go_wp2
    clear hmk
    go_loopw [5, 6, 7] (fun s5 s6 s7 wr => ∃ (v : Value) (k cy : Nat) (ds : List Nat), v = s5 ∧ k ≤ ln n ∧ s7 = .int .i64 k ∧ s6 = .int .u64 ((cy : Nat) : Int) ∧ cy ≤ 1 ∧ ds.length = k ∧ Dg ds ∧ val ds + B ^ k * cy = val ((dig m).take k) + val ((dig n).take k) ∧ wr.ownsRow w.heap.size 72 1 v k (cells ds) ∧ Below w.heap.size w wr) (fun _ _ s7 _ => ln n - (intOf s7).toNat)
    case atStart => exact ⟨_, 0, 0, [], rfl, Nat.zero_le _, rfl, rfl, Nat.zero_le _, rfl, (fun x hx => by cases hx), by simp [val], HOWN.out, below_alloc (Below.refl _ _) _⟩
    case round =>
      obtain ⟨v, k, cy, ds, rfl, hk, rfl, rfl, hcy, hdl, hdd, hval, hown, hbel⟩ := hrel
      have HV := Hd.mk hval
      have HO := Hd.mk hown
      have HL := Hd.mk hdl
      have HB := Hd.mk hbel
      have HD := Hd.mk hdd
      clear hval hown hdl hbel hdd
      obtain ⟨dx, hdx⟩ : ∃ dx, dx = (dig m).getD k 0 := ⟨_, rfl⟩
      have hdx1 : dx < 4294967296 := by rw [hdx]; exact dg_get (dg_dig _) k
      obtain ⟨dy, hdy⟩ : ∃ dy, dy = (dig n).getD k 0 := ⟨_, rfl⟩
      have hdy1 : dy < 4294967296 := by rw [hdy]; exact dg_get (dg_dig _) k
      have HDX := Hd.mk hdx
      have HDY := Hd.mk hdy
      clear hdx hdy
      by_cases hkm : k < ln m
      · obtain ⟨a1, rfl, hcell1⟩ := (HX.out.to HB.out).at_ hkm
        rw [← HDX.out] at hcell1
        by_cases hkn : k < ln n
        · obtain ⟨a2, rfl, hcell2⟩ := (HY.out.to HB.out).at_ hkn
          rw [← HDY.out] at hcell2
          have HZ := Hd.mk (Nat.le_refl 0)
          obtain ⟨x, hx⟩ : ∃ x : Nat, x = (dx + dy + cy) % 4294967296 := ⟨_, rfl⟩
          obtain ⟨c2, hc2⟩ : ∃ c2 : Nat, c2 = (dx + dy + cy) / 4294967296 := ⟨_, rfl⟩
          have hx' : ((cy : Int) + (dx : Int) + (dy : Int)) % 4294967296 = (x : Int) := by have hz := HZ.out; rw [hx]; omega
          have hc' : ((cy : Int) + (dx : Int) + (dy : Int)) / 4294967296 = (c2 : Int) := by have hz := HZ.out; rw [hc2]; omega
          have hxl : x < B := by rw [hx]; exact Nat.mod_lt _ (by decide)
          have hcl : c2 ≤ 1 := by rw [hc2]; omega
          have hstep := add_step (a := dx) (b := dy) HL.out HV.out
          rw [← hx, ← hc2, HDX.out, HDY.out, ← val_take_next, ← val_take_next] at hstep
          have HS := Hd.mk hstep
          clear hx hc2 hstep
          go_wp2_with (first | (at_builtin; (refine wpList_append_any _ rfl (.tmp 49) (.tmp 52) 36 rfl w.heap.size 72 i0 (.int .u32 0) 1 4 Try.underlying36 hi hz0 hz1 hz2 rfl (by decide) v k (cells ds) rfl (HO.out.alloc _) _ (some ⟨wr.heap.size, 0, none⟩) 1 1 (cells [x]) rfl (reads_new _ _ _) (cells_one _) (by unfold maxLen; omega) (by omega) (by have := HB.out.size; simp; omega) ?_; intro v1 w1 hown1 hg1 hat1)))
          rw [← cells_append] at hown1
          go_roundw
          case rel => exact ⟨_, k + 1, c2, ds ++ [x], rfl, by omega, by go_num, rfl, hcl, by rw [List.length_append, HL.out]; rfl, dg_append HD.out (dg_one hxl), HS.out, hown1, (below_alloc HB.out _).grown hg1 (by have := HB.out.size; simp; omega) (own_ge HO.out)⟩
          case measure => simp [intOf]; omega
        · have hdy0 : dy = 0 := by rw [HDY.out]; exact getD_zero_of_le (by unfold ln at hkn; omega)
          have HZ := Hd.mk hdy0
          clear hdy0
          try (exfalso; omega)
          all_goals
            obtain ⟨x, hx⟩ : ∃ x : Nat, x = (dx + dy + cy) % 4294967296 := ⟨_, rfl⟩
            obtain ⟨c2, hc2⟩ : ∃ c2 : Nat, c2 = (dx + dy + cy) / 4294967296 := ⟨_, rfl⟩
            have hx' : ((cy : Int) + (dx : Int)) % 4294967296 = (x : Int) := by have hz := HZ.out; rw [hx]; omega
            have hc' : ((cy : Int) + (dx : Int)) / 4294967296 = (c2 : Int) := by have hz := HZ.out; rw [hc2]; omega
            have hxl : x < B := by rw [hx]; exact Nat.mod_lt _ (by decide)
            have hcl : c2 ≤ 1 := by rw [hc2]; omega
            have hstep := add_step (a := dx) (b := dy) HL.out HV.out
            rw [← hx, ← hc2, HDX.out, HDY.out, ← val_take_next, ← val_take_next] at hstep
            have HS := Hd.mk hstep
            clear hx hc2 hstep
            go_wp2_with (first | (at_builtin; (refine wpList_append_any _ rfl (.tmp 49) (.tmp 52) 36 rfl w.heap.size 72 i0 (.int .u32 0) 1 4 Try.underlying36 hi hz0 hz1 hz2 rfl (by decide) v k (cells ds) rfl (HO.out.alloc _) _ (some ⟨wr.heap.size, 0, none⟩) 1 1 (cells [x]) rfl (reads_new _ _ _) (cells_one _) (by unfold maxLen; omega) (by omega) (by have := HB.out.size; simp; omega) ?_; intro v1 w1 hown1 hg1 hat1)))
            rw [← cells_append] at hown1
            go_roundw
            case rel => exact ⟨_, k + 1, c2, ds ++ [x], rfl, by omega, by go_num, rfl, hcl, by rw [List.length_append, HL.out]; rfl, dg_append HD.out (dg_one hxl), HS.out, hown1, (below_alloc HB.out _).grown hg1 (by have := HB.out.size; simp; omega) (own_ge HO.out)⟩
            case measure => simp [intOf]; omega
      · have hdx0 : dx = 0 := by rw [HDX.out]; exact getD_zero_of_le (by unfold ln at hkm; omega)
        have HZ := Hd.mk hdx0
        clear hdx0
        by_cases hkn : k < ln n
        · obtain ⟨a2, rfl, hcell2⟩ := (HY.out.to HB.out).at_ hkn
          rw [← HDY.out] at hcell2
          try (exfalso; omega)
          all_goals
            obtain ⟨x, hx⟩ : ∃ x : Nat, x = (dx + dy + cy) % 4294967296 := ⟨_, rfl⟩
            obtain ⟨c2, hc2⟩ : ∃ c2 : Nat, c2 = (dx + dy + cy) / 4294967296 := ⟨_, rfl⟩
            have hx' : ((cy : Int) + (dy : Int)) % 4294967296 = (x : Int) := by have hz := HZ.out; rw [hx]; omega
            have hc' : ((cy : Int) + (dy : Int)) / 4294967296 = (c2 : Int) := by have hz := HZ.out; rw [hc2]; omega
            have hxl : x < B := by rw [hx]; exact Nat.mod_lt _ (by decide)
            have hcl : c2 ≤ 1 := by rw [hc2]; omega
            have hstep := add_step (a := dx) (b := dy) HL.out HV.out
            rw [← hx, ← hc2, HDX.out, HDY.out, ← val_take_next, ← val_take_next] at hstep
            have HS := Hd.mk hstep
            clear hx hc2 hstep
            go_wp2_with (first | (at_builtin; (refine wpList_append_any _ rfl (.tmp 49) (.tmp 52) 36 rfl w.heap.size 72 i0 (.int .u32 0) 1 4 Try.underlying36 hi hz0 hz1 hz2 rfl (by decide) v k (cells ds) rfl (HO.out.alloc _) _ (some ⟨wr.heap.size, 0, none⟩) 1 1 (cells [x]) rfl (reads_new _ _ _) (cells_one _) (by unfold maxLen; omega) (by omega) (by have := HB.out.size; simp; omega) ?_; intro v1 w1 hown1 hg1 hat1)))
            rw [← cells_append] at hown1
            go_roundw
            case rel => exact ⟨_, k + 1, c2, ds ++ [x], rfl, by omega, by go_num, rfl, hcl, by rw [List.length_append, HL.out]; rfl, dg_append HD.out (dg_one hxl), HS.out, hown1, (below_alloc HB.out _).grown hg1 (by have := HB.out.size; simp; omega) (own_ge HO.out)⟩
            case measure => simp [intOf]; omega
        · have hke : k = ln n := by omega
          have hv2 : val (ds ++ [cy]) = m + n := by
            rw [val_snoc, HL.out, HV.out, val_take_all (by omega), val_take_all (by omega)]
          have hcyx : (cy : Int) % 4294967296 = (cy : Int) := by omega
          have HC := Hd.mk hv2
          have hdd2 : Dg (ds ++ [cy]) := dg_append HD.out (dg_one (by unfold B; omega))
          have HD2 := Hd.mk hdd2
          have hfin : ln (m + n) ≤ ln n + 1 := Nat.le_trans (ln_add m n) (by omega)
          have HKE := Hd.mk hke
          clear hv2 hdd2 hke hdx1 hdy1
          go_wp2_with (first | (at_builtin; (refine wpList_append_any _ rfl (.tmp 56) (.tmp 59) 36 rfl w.heap.size 72 i0 (.int .u32 0) 1 4 Try.underlying36 hi hz0 hz1 hz2 rfl (by decide) v k (cells ds) rfl (HO.out.alloc _) _ (some ⟨wr.heap.size, 0, none⟩) 1 1 (cells [cy]) rfl (reads_new _ _ _) (cells_one _) (by unfold maxLen; omega) (by omega) (by have := HB.out.size; simp; omega) ?_; intro v1 w1 hown1 hg1 hat1; rw [← cells_append] at hown1; have hl : (ds ++ [cy]).length = k + 1 := (by rw [List.length_append, HL.out]; rfl); have hown2 : w1.ownsRow w.heap.size 72 1 v1 (ds ++ [cy]).length (cells (ds ++ [cy])) := (by rw [hl]; exact hown1); obtain ⟨A3, c3, hv3, hrn, hc3, hcm⟩ := own_slice hown2; subst hv3; rw [hl] at hc3 ⊢; have HR := Hd.mk hrn; have HT := Hd.mk (trim_calls A3 c3 (ds ++ [cy]) w1 hrn HD2.out (by rw [hl]; exact hc3) hcm); rw [hl, HC.out] at HT; have hb1 := (below_alloc HB.out (.cells #[.int .u32 ((cy : Nat) : Int)] 72)).grown hg1 (by have := HB.out.size; simp; omega) (own_ge HO.out); have HB1 := Hd.mk hb1; clear hrn hl hown1 hown2 hg1 hat1 hb1)) | (go_at_call 123; refine HT.out.mono ?_; rintro e w' ⟨rfl, rfl⟩))
          go_ret
          refine ⟨_, _, rfl, ⟨?_, by omega, hcm⟩, HB1.out⟩
          have := HR.out.of_take HD2.out
          rwa [HC.out] at this
  · have hmk := fun W => make_words2 36 Try.underlying36 0 ((ln m : Int) + 1) 0 (ln m + 1) rfl (by omega) (by omega) (by omega) W
    have hown : (w.alloc (.cells (cells (List.replicate (ln m + 1) 0)).toArray 72)).ownsRow w.heap.size 72 1 (.slice (some ⟨w.heap.size, 0, none⟩) 0 (ln m + 1)) 0 (cells []) := own_made (heap_alloc_new w (.cells (cells (List.replicate (ln m + 1) 0)).toArray 72)) (c := ln m + 1) (n := 0) (by simp) (by omega) (by omega) (base := w.heap.size) (Nat.le_refl _)
    have HOWN := Hd.mk hown
    clear hown
    obtain ⟨i0, hi, hz0, hz1, hz2⟩ := info_parts Try.info_word
    go_enter Try.func83, Try.ntmps83
    go_wp2
    clear hmk
    go_loopw [5, 6, 7] (fun s5 s6 s7 wr => ∃ (v : Value) (k cy : Nat) (ds : List Nat), v = s5 ∧ k ≤ ln m ∧ s7 = .int .i64 k ∧ s6 = .int .u64 ((cy : Nat) : Int) ∧ cy ≤ 1 ∧ ds.length = k ∧ Dg ds ∧ val ds + B ^ k * cy = val ((dig m).take k) + val ((dig n).take k) ∧ wr.ownsRow w.heap.size 72 1 v k (cells ds) ∧ Below w.heap.size w wr) (fun _ _ s7 _ => ln m - (intOf s7).toNat)
    case atStart => exact ⟨_, 0, 0, [], rfl, Nat.zero_le _, rfl, rfl, Nat.zero_le _, rfl, (fun x hx => by cases hx), by simp [val], HOWN.out, below_alloc (Below.refl _ _) _⟩
    case round =>
      obtain ⟨v, k, cy, ds, rfl, hk, rfl, rfl, hcy, hdl, hdd, hval, hown, hbel⟩ := hrel
      have HV := Hd.mk hval
      have HO := Hd.mk hown
      have HL := Hd.mk hdl
      have HB := Hd.mk hbel
      have HD := Hd.mk hdd
      clear hval hown hdl hbel hdd
      obtain ⟨dx, hdx⟩ : ∃ dx, dx = (dig m).getD k 0 := ⟨_, rfl⟩
      have hdx1 : dx < 4294967296 := by rw [hdx]; exact dg_get (dg_dig _) k
      obtain ⟨dy, hdy⟩ : ∃ dy, dy = (dig n).getD k 0 := ⟨_, rfl⟩
      have hdy1 : dy < 4294967296 := by rw [hdy]; exact dg_get (dg_dig _) k
      have HDX := Hd.mk hdx
      have HDY := Hd.mk hdy
      clear hdx hdy
      by_cases hkm : k < ln m
      · obtain ⟨a1, rfl, hcell1⟩ := (HX.out.to HB.out).at_ hkm
        rw [← HDX.out] at hcell1
        by_cases hkn : k < ln n
        · obtain ⟨a2, rfl, hcell2⟩ := (HY.out.to HB.out).at_ hkn
          rw [← HDY.out] at hcell2
          have HZ := Hd.mk (Nat.le_refl 0)
          obtain ⟨x, hx⟩ : ∃ x : Nat, x = (dx + dy + cy) % 4294967296 := ⟨_, rfl⟩
          obtain ⟨c2, hc2⟩ : ∃ c2 : Nat, c2 = (dx + dy + cy) / 4294967296 := ⟨_, rfl⟩
          have hx' : ((cy : Int) + (dx : Int) + (dy : Int)) % 4294967296 = (x : Int) := by have hz := HZ.out; rw [hx]; omega
          have hc' : ((cy : Int) + (dx : Int) + (dy : Int)) / 4294967296 = (c2 : Int) := by have hz := HZ.out; rw [hc2]; omega
          have hxl : x < B := by rw [hx]; exact Nat.mod_lt _ (by decide)
          have hcl : c2 ≤ 1 := by rw [hc2]; omega
          have hstep := add_step (a := dx) (b := dy) HL.out HV.out
          rw [← hx, ← hc2, HDX.out, HDY.out, ← val_take_next, ← val_take_next] at hstep
          have HS := Hd.mk hstep
          clear hx hc2 hstep
          go_wp2_with (first | (at_builtin; (refine wpList_append_any _ rfl (.tmp 49) (.tmp 52) 36 rfl w.heap.size 72 i0 (.int .u32 0) 1 4 Try.underlying36 hi hz0 hz1 hz2 rfl (by decide) v k (cells ds) rfl (HO.out.alloc _) _ (some ⟨wr.heap.size, 0, none⟩) 1 1 (cells [x]) rfl (reads_new _ _ _) (cells_one _) (by unfold maxLen; omega) (by omega) (by have := HB.out.size; simp; omega) ?_; intro v1 w1 hown1 hg1 hat1)))
          rw [← cells_append] at hown1
          go_roundw
          case rel => exact ⟨_, k + 1, c2, ds ++ [x], rfl, by omega, by go_num, rfl, hcl, by rw [List.length_append, HL.out]; rfl, dg_append HD.out (dg_one hxl), HS.out, hown1, (below_alloc HB.out _).grown hg1 (by have := HB.out.size; simp; omega) (own_ge HO.out)⟩
          case measure => simp [intOf]; omega
        · have hdy0 : dy = 0 := by rw [HDY.out]; exact getD_zero_of_le (by unfold ln at hkn; omega)
          have HZ := Hd.mk hdy0
          clear hdy0
          try (exfalso; omega)
          all_goals
            obtain ⟨x, hx⟩ : ∃ x : Nat, x = (dx + dy + cy) % 4294967296 := ⟨_, rfl⟩
            obtain ⟨c2, hc2⟩ : ∃ c2 : Nat, c2 = (dx + dy + cy) / 4294967296 := ⟨_, rfl⟩
            have hx' : ((cy : Int) + (dx : Int)) % 4294967296 = (x : Int) := by have hz := HZ.out; rw [hx]; omega
            have hc' : ((cy : Int) + (dx : Int)) / 4294967296 = (c2 : Int) := by have hz := HZ.out; rw [hc2]; omega
            have hxl : x < B := by rw [hx]; exact Nat.mod_lt _ (by decide)
            have hcl : c2 ≤ 1 := by rw [hc2]; omega
            have hstep := add_step (a := dx) (b := dy) HL.out HV.out
            rw [← hx, ← hc2, HDX.out, HDY.out, ← val_take_next, ← val_take_next] at hstep
            have HS := Hd.mk hstep
            clear hx hc2 hstep
            go_wp2_with (first | (at_builtin; (refine wpList_append_any _ rfl (.tmp 49) (.tmp 52) 36 rfl w.heap.size 72 i0 (.int .u32 0) 1 4 Try.underlying36 hi hz0 hz1 hz2 rfl (by decide) v k (cells ds) rfl (HO.out.alloc _) _ (some ⟨wr.heap.size, 0, none⟩) 1 1 (cells [x]) rfl (reads_new _ _ _) (cells_one _) (by unfold maxLen; omega) (by omega) (by have := HB.out.size; simp; omega) ?_; intro v1 w1 hown1 hg1 hat1)))
            rw [← cells_append] at hown1
            go_roundw
            case rel => exact ⟨_, k + 1, c2, ds ++ [x], rfl, by omega, by go_num, rfl, hcl, by rw [List.length_append, HL.out]; rfl, dg_append HD.out (dg_one hxl), HS.out, hown1, (below_alloc HB.out _).grown hg1 (by have := HB.out.size; simp; omega) (own_ge HO.out)⟩
            case measure => simp [intOf]; omega
      · have hdx0 : dx = 0 := by rw [HDX.out]; exact getD_zero_of_le (by unfold ln at hkm; omega)
        have HZ := Hd.mk hdx0
        clear hdx0
        by_cases hkn : k < ln n
        · obtain ⟨a2, rfl, hcell2⟩ := (HY.out.to HB.out).at_ hkn
          rw [← HDY.out] at hcell2
          try (exfalso; omega)
          all_goals
            obtain ⟨x, hx⟩ : ∃ x : Nat, x = (dx + dy + cy) % 4294967296 := ⟨_, rfl⟩
            obtain ⟨c2, hc2⟩ : ∃ c2 : Nat, c2 = (dx + dy + cy) / 4294967296 := ⟨_, rfl⟩
            have hx' : ((cy : Int) + (dy : Int)) % 4294967296 = (x : Int) := by have hz := HZ.out; rw [hx]; omega
            have hc' : ((cy : Int) + (dy : Int)) / 4294967296 = (c2 : Int) := by have hz := HZ.out; rw [hc2]; omega
            have hxl : x < B := by rw [hx]; exact Nat.mod_lt _ (by decide)
            have hcl : c2 ≤ 1 := by rw [hc2]; omega
            have hstep := add_step (a := dx) (b := dy) HL.out HV.out
            rw [← hx, ← hc2, HDX.out, HDY.out, ← val_take_next, ← val_take_next] at hstep
            have HS := Hd.mk hstep
            clear hx hc2 hstep
            go_wp2_with (first | (at_builtin; (refine wpList_append_any _ rfl (.tmp 49) (.tmp 52) 36 rfl w.heap.size 72 i0 (.int .u32 0) 1 4 Try.underlying36 hi hz0 hz1 hz2 rfl (by decide) v k (cells ds) rfl (HO.out.alloc _) _ (some ⟨wr.heap.size, 0, none⟩) 1 1 (cells [x]) rfl (reads_new _ _ _) (cells_one _) (by unfold maxLen; omega) (by omega) (by have := HB.out.size; simp; omega) ?_; intro v1 w1 hown1 hg1 hat1)))
            rw [← cells_append] at hown1
            go_roundw
            case rel => exact ⟨_, k + 1, c2, ds ++ [x], rfl, by omega, by go_num, rfl, hcl, by rw [List.length_append, HL.out]; rfl, dg_append HD.out (dg_one hxl), HS.out, hown1, (below_alloc HB.out _).grown hg1 (by have := HB.out.size; simp; omega) (own_ge HO.out)⟩
            case measure => simp [intOf]; omega
        · have hke : k = ln m := by omega
          have hv2 : val (ds ++ [cy]) = m + n := by
            rw [val_snoc, HL.out, HV.out, val_take_all (by omega), val_take_all (by omega)]
          have hcyx : (cy : Int) % 4294967296 = (cy : Int) := by omega
          have HC := Hd.mk hv2
          have hdd2 : Dg (ds ++ [cy]) := dg_append HD.out (dg_one (by unfold B; omega))
          have HD2 := Hd.mk hdd2
          have hfin : ln (m + n) ≤ ln m + 1 := Nat.le_trans (ln_add m n) (by omega)
          have HKE := Hd.mk hke
          clear hv2 hdd2 hke hdx1 hdy1
          go_wp2_with (first | (at_builtin; (refine wpList_append_any _ rfl (.tmp 56) (.tmp 59) 36 rfl w.heap.size 72 i0 (.int .u32 0) 1 4 Try.underlying36 hi hz0 hz1 hz2 rfl (by decide) v k (cells ds) rfl (HO.out.alloc _) _ (some ⟨wr.heap.size, 0, none⟩) 1 1 (cells [cy]) rfl (reads_new _ _ _) (cells_one _) (by unfold maxLen; omega) (by omega) (by have := HB.out.size; simp; omega) ?_; intro v1 w1 hown1 hg1 hat1; rw [← cells_append] at hown1; have hl : (ds ++ [cy]).length = k + 1 := (by rw [List.length_append, HL.out]; rfl); have hown2 : w1.ownsRow w.heap.size 72 1 v1 (ds ++ [cy]).length (cells (ds ++ [cy])) := (by rw [hl]; exact hown1); obtain ⟨A3, c3, hv3, hrn, hc3, hcm⟩ := own_slice hown2; subst hv3; rw [hl] at hc3 ⊢; have HR := Hd.mk hrn; have HT := Hd.mk (trim_calls A3 c3 (ds ++ [cy]) w1 hrn HD2.out (by rw [hl]; exact hc3) hcm); rw [hl, HC.out] at HT; have hb1 := (below_alloc HB.out (.cells #[.int .u32 ((cy : Nat) : Int)] 72)).grown hg1 (by have := HB.out.size; simp; omega) (own_ge HO.out); have HB1 := Hd.mk hb1; clear hrn hl hown1 hown2 hg1 hat1 hb1)) | (go_at_call 123; refine HT.out.mono ?_; rintro e w' ⟨rfl, rfl⟩))
          go_ret
          refine ⟨_, _, rfl, ⟨?_, by omega, hcm⟩, HB1.out⟩
          have := HR.out.of_take HD2.out
          rwa [HC.out] at this
end Go.Proofs.Ytcjcpfafalkceaa
