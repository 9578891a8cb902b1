/- Part 8 of the texts behind this claim. -/
import Derived.Test.YtddbmckbankmeaaKo7
set_option linter.unusedVariables false
set_option linter.unusedSimpArgs false
namespace Go.Proofs.Ytddbmckbankmeaa
open Go.RowKit
theorem RI.cellq {w : World} {ad : Addr} {xs : List Int} {q : Nat} (h : RI w (some ad) xs) (hq : q < xs.length) : w.cell? (Addr.add ad ((q : Int)).toNat) = some (.int .i64 (xs.getD q 0)) := by
  obtain ⟨ad', e, hc⟩ := h.at_ hq
  injection e with e
  subst e
  rw [Int.toNat_natCast]
  exact hc
def apL (W H x y t : Int) (f : Bool) (xs : List Int) : List Int := apS (fun q => toC W H x y t f q) xs xs.length
set_option maxRecDepth 100000 in
set_option maxHeartbeats 1000000 in
theorem apply_got (Wd Ht x y t : Int) (f : Bool) (ad : Addr) (k : Nat) (xs : List Int) (w : World) (hri : RI w (some ad) xs) (hk : Okm Wd Ht x y t) (hl : (xs.length : Int) = Wd * Ht) :
    Calls Try.prog 52 #[.agg #[.int .i64 Wd, .int .i64 Ht], .agg #[.int .i64 x, .int .i64 y, .int .i64 t, .bool f], .agg #[.int .i64 Wd, .int .i64 Ht, .slice (some ad) xs.length k]] w (Got w (isFS w.heap.size Wd Ht (apL Wd Ht x y t f xs)).p) := by
  have HRI := Hd.mk hri
  have HK := Hd.mk hk
  have hwb := hk.w
  have hhb := hk.h
  have m1 := mul_small (a := Wd) (b := Ht) (by omega) (by omega)
  clear hri hk
  go_enter Try.func52, Try.ntmps52
  go_upto_region 1 with fail
  obtain ⟨W0, hW0⟩ : ∃ W : World, W = (((w.alloc (.cells #[.int .i64 Wd, .int .i64 Ht] 84)).alloc (.cells #[.int .i64 x, .int .i64 y, .int .i64 t, .bool f] 31)).alloc (.cells #[.int .i64 Wd, .int .i64 Ht, .slice (some ad) xs.length k] 27)).alloc (.cells #[.int .i64 0, .int .i64 0, .slice none 0 0] 27) := ⟨_, rfl⟩
  rw [← hW0]
  obtain ⟨he, hb⟩ := env_four hW0
  have HE := Hd.mk he
  have HB := Hd.mk hb
  clear he hb hW0
  refine wp_region_vs 10 [10, 11, 12, 13, 14, 15, 16, 17, 18, 7] [0, 2, 4, 8] [9] 27 [.int .i64 0, .int .i64 0, .slice none 0 0] [isV (.pointer (some ⟨w.heap.size + 1 + 1, 0, none⟩)), isV (.int .i64 Wd), isV (.pointer (some ⟨w.heap.size + 1 + 1, 1, none⟩)), isV (.int .i64 Ht), isV (.pointer (some ⟨w.heap.size + 1 + 1, 2, none⟩)), isV (.slice (some ad) xs.length k), isV (.int .i64 (((xs.length : Nat) : Int))), isF W0.heap.size (List.replicate xs.length (0 : Int)), isFS W0.heap.size Wd Ht (List.replicate xs.length (0 : Int)), SP.any] (by kernel_rfl) (by kernel_rfl) (by kernel_rfl) (by rfl) alloc_T (fun d v c a w h => by cases d <;> exact h) ?_ ?_
  · intro qi qh qA aa wx hb hs hd
    match qi, qh, qA with
    | 0, _, _ => exact ⟨_, op_faT0 rfl (hs 5 rfl), rfl⟩
    | 1, _, _ => exact op_ldI rfl rfl (hd 0 rfl) ((HE.out.to hb).cell 2 0 rfl rfl)
    | 2, _, _ => exact ⟨_, op_faT1 rfl (hs 5 rfl), rfl⟩
    | 3, _, _ => exact op_ldI rfl rfl (hd 2 rfl) ((HE.out.to hb).cell 2 1 rfl rfl)
    | 4, _, _ => exact ⟨_, op_faT2 rfl (hs 5 rfl), rfl⟩
    | 5, _, _ => exact op_ldS rfl rfl (hd 4 rfl) ((HE.out.to hb).cell 2 2 rfl rfl)
    | 6, _, _ => exact op_len rfl rfl (hd 5 rfl)
    | 7, _, _ => exact op_make (by omega) rfl rfl (hd 6 rfl) (hd 6 rfl) W0.heap.size hb.size
    | 8, _, _ => exact op_buTF rfl (hd 1 rfl) (hd 3 rfl) (hd 7 rfl)
    | 9, _, h => cases h
    | qi + 10, h, _ => omega
  intro vs X1 hb hv hal hne
  have HL0 := Hd.mk (HE.out.lt)
  have HBW := HB
  replace HB := Hd.mk (bel_then HB.out hb)
  replace HE := Hd.mk (HE.out.to hb)
  have t18 : (isFS W0.heap.size Wd Ht (List.replicate xs.length (0 : Int))).p (vs 18) X1 := hv 8 (by decide) rfl
  obtain ⟨g18, k18, rest18, e18, l18, m18, n18, b18⟩ := t18
  replace HE : Hd (Env X1 [⟨w.heap.size, 84, [.int .i64 Wd, .int .i64 Ht]⟩, ⟨w.heap.size + 1, 31, [.int .i64 x, .int .i64 y, .int .i64 t, .bool f]⟩, ⟨w.heap.size + 1 + 1, 27, [.int .i64 Wd, .int .i64 Ht, .slice (some ad) xs.length k]⟩, ⟨w.heap.size + 1 + 1 + 1, 27, [.int .i64 0, .int .i64 0, .slice none 0 0]⟩, ⟨g18, 3, ints (List.replicate xs.length (0 : Int)) ++ rest18⟩]) := ⟨Env.addne (e := ⟨g18, 3, ints (List.replicate xs.length (0 : Int)) ++ rest18⟩) HE.out b18 (fun e' he => Nat.ne_of_lt (Nat.lt_of_lt_of_le (HL0.out e' he) l18))⟩
  have G18 : Hd (w.heap.size ≤ g18) := ⟨Nat.le_trans HBW.out.size l18⟩
  obtain ⟨g7, e7, l7, b7⟩ : ∃ g, vs 7 = .pointer (some ⟨g, 0, none⟩) ∧ _ := hal 9 rfl
  replace HE : Hd (Env X1 [⟨w.heap.size, 84, [.int .i64 Wd, .int .i64 Ht]⟩, ⟨w.heap.size + 1, 31, [.int .i64 x, .int .i64 y, .int .i64 t, .bool f]⟩, ⟨w.heap.size + 1 + 1, 27, [.int .i64 Wd, .int .i64 Ht, .slice (some ad) xs.length k]⟩, ⟨w.heap.size + 1 + 1 + 1, 27, [.int .i64 0, .int .i64 0, .slice none 0 0]⟩, ⟨g18, 3, ints (List.replicate xs.length (0 : Int)) ++ rest18⟩, ⟨g7, 27, [.int .i64 0, .int .i64 0, .slice none 0 0]⟩]) := ⟨Env.addne (e := ⟨g7, 27, [.int .i64 0, .int .i64 0, .slice none 0 0]⟩) HE.out b7 (fun e' he => (List.mem_append.1 (show e' ∈ _ ++ [_] from he)).elim (fun he => Nat.ne_of_lt (Nat.lt_of_lt_of_le (HL0.out e' he) l7)) (fun he => by rw [List.mem_singleton.1 he]; exact blk_ne b18 b7 (by decide)))⟩
  have G7 : Hd (w.heap.size ≤ g7) := ⟨Nat.le_trans HBW.out.size l7⟩
  simp only [PA, e18, e7]
  clear hv hal hne hb HL0 HBW e18 e7 l18 b18 l7 b7
  refine wpList_st rfl rfl rfl rfl rfl (sto_T (HE.out.get 5 rfl)) ?_
  have HE' : Env (putL X1 g7 0 [.int .i64 Wd, .int .i64 Ht, .slice (some ⟨g18, 0, none⟩) ((List.replicate xs.length (0 : Int)).length) k18]) [⟨w.heap.size, 84, [.int .i64 Wd, .int .i64 Ht]⟩, ⟨w.heap.size + 1, 31, [.int .i64 x, .int .i64 y, .int .i64 t, .bool f]⟩, ⟨w.heap.size + 1 + 1, 27, [.int .i64 Wd, .int .i64 Ht, .slice (some ad) xs.length k]⟩, ⟨w.heap.size + 1 + 1 + 1, 27, [.int .i64 0, .int .i64 0, .slice none 0 0]⟩, ⟨g18, 3, ints (List.replicate xs.length (0 : Int)) ++ rest18⟩, ⟨g7, 27, [.int .i64 Wd, .int .i64 Ht, .slice (some ⟨g18, 0, none⟩) ((List.replicate xs.length (0 : Int)).length) k18]⟩] := HE.out.putF 5 rfl rfl
  have HB' := putL_below (show w.heap.size ≤ g7 from G7.out) [.int .i64 Wd, .int .i64 Ht, .slice (some ⟨g18, 0, none⟩) ((List.replicate xs.length (0 : Int)).length) k18] _ 0 HB.out
  generalize putL X1 g7 0 [.int .i64 Wd, .int .i64 Ht, .slice (some ⟨g18, 0, none⟩) ((List.replicate xs.length (0 : Int)).length) k18] = X2 at *
  replace HE := Hd.mk HE'
  replace HB := Hd.mk HB'
  clear HE' HB'
  go_upto_region 2 with fail
  refine wp_region_vd 4 [19, 20, 21, 22] [0, 3] [] 84 [.int .i64 0, .int .i64 0] [isV (.pointer (some ⟨w.heap.size + 1 + 1, 2, none⟩)), isV (.slice (some ad) xs.length k), isV (.int .i64 (((xs.length : Nat) : Int))), isV (.int .i64 0)] (by rfl) alloc_Z ?_ ?_
  · intro qi qh qA aa wx hb hs hd
    match qi, qh, qA with
    | 0, _, _ => exact .inl ⟨rfl, ⟨_, op_faT2 rfl (hs 5 rfl), rfl⟩⟩
    | 1, _, _ => exact .inl ⟨rfl, op_ldS rfl rfl (hd 0 rfl) ((HE.out.to hb).cell 2 2 rfl rfl)⟩
    | 2, _, _ => exact .inl ⟨rfl, op_len rfl rfl (hd 1 rfl)⟩
    | 3, _, _ => exact .inl ⟨rfl, op_mv rfl rfl⟩
    | qi + 4, h, _ => omega
  intro vs X3 hb hv hal hne
  replace HB := Hd.mk (bel_then HB.out hb)
  replace HE := Hd.mk (HE.out.to hb)
  have e20 : vs 20 = .slice (some ad) xs.length k := hv 1 (by decide) rfl
  have e21 : vs 21 = .int .i64 (((xs.length : Nat) : Int)) := hv 2 (by decide) rfl
  have e22 : vs 22 = .int .i64 0 := hv 3 (by decide) rfl
  simp only [PA, e20, e21, e22]
  clear hv hal hne hb e20 e21 e22
  go_wp2_with fail
  go_loopw [8, 9, 22] (fun si sc sq wr => ∃ q : Nat, q ≤ xs.length ∧ sq = .int .i64 q ∧ Env wr [⟨w.heap.size, 84, [.int .i64 Wd, .int .i64 Ht]⟩, ⟨w.heap.size + 1, 31, [.int .i64 x, .int .i64 y, .int .i64 t, .bool f]⟩, ⟨w.heap.size + 1 + 1, 27, [.int .i64 Wd, .int .i64 Ht, .slice (some ad) xs.length k]⟩, ⟨w.heap.size + 1 + 1 + 1, 27, [.int .i64 0, .int .i64 0, .slice none 0 0]⟩, ⟨g18, 3, ints (apS (fun q => toC Wd Ht x y t f q) xs q) ++ rest18⟩, ⟨g7, 27, [.int .i64 Wd, .int .i64 Ht, .slice (some ⟨g18, 0, none⟩) ((List.replicate xs.length (0 : Int)).length) k18]⟩] ∧ Below w.heap.size w wr) (fun _ _ sq _ => xs.length - (intOf sq).toNat)
  case atStart => exact ⟨0, Nat.zero_le _, rfl, HE.out, HB.out⟩
  case round =>
    obtain ⟨q, hq, rfl, he, hb⟩ := hrel
    clear HB HE
    have HB := Hd.mk hb
    have HE : Hd (Env wr [⟨w.heap.size, 84, [.int .i64 Wd, .int .i64 Ht]⟩, ⟨w.heap.size + 1, 31, [.int .i64 x, .int .i64 y, .int .i64 t, .bool f]⟩, ⟨w.heap.size + 1 + 1, 27, [.int .i64 Wd, .int .i64 Ht, .slice (some ad) xs.length k]⟩, ⟨w.heap.size + 1 + 1 + 1, 27, [.int .i64 0, .int .i64 0, .slice none 0 0]⟩, ⟨g18, 3, ints (apS (fun q => toC Wd Ht x y t f q) xs q) ++ rest18⟩, ⟨g7, 27, [.int .i64 Wd, .int .i64 Ht, .slice (some ⟨g18, 0, none⟩) ((List.replicate xs.length (0 : Int)).length) k18]⟩]) := ⟨he⟩
    clear he hb
    have htl := toC_lt (i := (q : Int)) f HK.out
    by_cases hlt : q < xs.length
    · go_upto_region 4 with fail
      refine wp_region_vd 3 [24, 25, 26] [0] [] 84 [.int .i64 0, .int .i64 0] [isV (.int .i64 (((q : Nat) : Int))), isV (.pointer (some (Addr.add ad (((q : Nat) : Int)).toNat))), isV (.int .i64 (xs.getD q 0))] (by rfl) alloc_Z ?_ ?_
      · intro qi qh qA aa wx hb hs hd
        match qi, qh, qA with
        | 0, _, _ => exact .inl ⟨rfl, op_mv rfl (hs 22 rfl)⟩
        | 1, _, _ => exact .inl ⟨rfl, op_run rfl (op_idx (by omega) (by omega) rfl (hs 20 rfl) (hs 22 rfl) _) rfl⟩
        | 2, _, _ => exact .inl ⟨rfl, op_ldAt rfl rfl (hd 1 rfl) ((HRI.out.to (bel_then HB.out hb)).cellq hlt)⟩
        | qi + 3, h, _ => omega
      intro vs X4 hb hv hal hne
      replace HB := Hd.mk (bel_then HB.out hb)
      replace HE := Hd.mk (HE.out.to hb)
      have e24 : vs 24 = .int .i64 (((q : Nat) : Int)) := hv 0 (by decide) rfl
      have e26 : vs 26 = .int .i64 (xs.getD q 0) := hv 2 (by decide) rfl
      simp only [PA, e24, e26]
      clear hv hal hne hb e24 e26
      go_upto_region 5 with fail
      refine wp_region_vs 8 [27, 28, 29, 30, 31, 32, 33, 34] [0, 4, 6] [] 84 [.int .i64 0, .int .i64 0] [isV (.pointer (some ⟨g7, 2, none⟩)), isV (.slice (some ⟨g18, 0, none⟩) ((List.replicate xs.length (0 : Int)).length) k18), isV (.agg #[.int .i64 Wd, .int .i64 Ht]), isV (.agg #[.int .i64 x, .int .i64 y, .int .i64 t, .bool f]), isV (.int .i64 (((q : Nat) : Int))), isV (.int .i64 (toC Wd Ht x y t f (((q : Nat) : Int)))), isV (.int .i64 (xs.getD q 0)), isV (.pointer (some (Addr.add (⟨g18, 0, none⟩) (toC Wd Ht x y t f (((q : Nat) : Int))).toNat)))] (by kernel_rfl) (by kernel_rfl) (by kernel_rfl) (by rfl) alloc_Z (fun d v c a w h => by cases d <;> exact h) ?_ ?_
      · intro qi qh qA aa wx hb hs hd
        match qi, qh, qA with
        | 0, _, _ => exact ⟨_, op_faT2 rfl (hs 7 rfl), rfl⟩
        | 1, _, _ => exact op_ldS rfl rfl (hd 0 rfl) ((HE.out.to hb).cell 5 2 rfl rfl)
        | 2, _, _ => exact op_ldZ rfl rfl (hs 3 rfl) ((HE.out.to hb).get 0 rfl)
        | 3, _, _ => exact op_ldM rfl rfl (hs 4 rfl) ((HE.out.to hb).get 1 rfl)
        | 4, _, _ => exact op_mv rfl (hs 8 rfl)
        | 5, _, _ => exact op_call3 rfl rfl Try.call64 (by rw [(show aa.eval (.tmp 29) = .agg #[.int .i64 Wd, .int .i64 Ht] from (hd 2 rfl)), (show aa.eval (.tmp 30) = .agg #[.int .i64 x, .int .i64 y, .int .i64 t, .bool f] from (hd 3 rfl)), (show aa.eval (.tmp 31) = .int .i64 (((q : Nat) : Int)) from (hd 4 rfl))]; exact to_got Wd Ht x y t (((q : Nat) : Int)) f HK.out (by omega) _)
        | 6, _, _ => exact op_mv rfl (hs 9 rfl)
        | 7, _, _ => exact op_run rfl (op_idx (by omega) (by rw [List.length_replicate]; omega) rfl (hd 1 rfl) (hd 5 rfl) _) rfl
        | qi + 8, h, _ => omega
      intro vs X5 hb hv hal hne
      replace HB := Hd.mk (bel_then HB.out hb)
      replace HE := Hd.mk (HE.out.to hb)
      have e34 : vs 34 = .pointer (some (Addr.add (⟨g18, 0, none⟩) (toC Wd Ht x y t f (((q : Nat) : Int))).toNat)) := hv 7 (by decide) rfl
      have e33 : vs 33 = .int .i64 (xs.getD q 0) := hv 6 (by decide) rfl
      simp only [PA, e34, e33]
      clear hv hal hne hb e34 e33
      refine wpList_st rfl rfl rfl rfl rfl (sto_at (HE.out.get 4 rfl) (by rw [apS_length]; omega)) ?_
      have HE' : Env (putL X5 g18 (toC Wd Ht x y t f (((q : Nat) : Int))).toNat [.int .i64 (xs.getD q 0)]) [⟨w.heap.size, 84, [.int .i64 Wd, .int .i64 Ht]⟩, ⟨w.heap.size + 1, 31, [.int .i64 x, .int .i64 y, .int .i64 t, .bool f]⟩, ⟨w.heap.size + 1 + 1, 27, [.int .i64 Wd, .int .i64 Ht, .slice (some ad) xs.length k]⟩, ⟨w.heap.size + 1 + 1 + 1, 27, [.int .i64 0, .int .i64 0, .slice none 0 0]⟩, ⟨g18, 3, ints (((apS (fun q => toC Wd Ht x y t f q) xs q)).set (toC Wd Ht x y t f (((q : Nat) : Int))).toNat (xs.getD q 0)) ++ rest18⟩, ⟨g7, 27, [.int .i64 Wd, .int .i64 Ht, .slice (some ⟨g18, 0, none⟩) ((List.replicate xs.length (0 : Int)).length) k18]⟩] := HE.out.putI 4 rfl (by rw [apS_length]; omega)
      have HB' := putL_below (show w.heap.size ≤ g18 from G18.out) [.int .i64 (xs.getD q 0)] _ ((toC Wd Ht x y t f (((q : Nat) : Int))).toNat) HB.out
      generalize putL X5 g18 (toC Wd Ht x y t f (((q : Nat) : Int))).toNat [.int .i64 (xs.getD q 0)] = X6 at *
      replace HE := Hd.mk HE'
      replace HB := Hd.mk HB'
      clear HE' HB'
      go_wp2_with fail
      go_roundw
      case rel => exact ⟨q + 1, by omega, by go_num, HE.out, HB.out⟩
      case measure => simp [intOf]; omega
    have hqe : q = xs.length := by omega
    subst hqe
    go_upto_region 7 with fail
    refine wp_region_vd 1 [36] [] [] 84 [.int .i64 0, .int .i64 0] [isV (.agg #[.int .i64 Wd, .int .i64 Ht, .slice (some ⟨g18, 0, none⟩) ((List.replicate xs.length (0 : Int)).length) k18])] (by rfl) alloc_Z ?_ ?_
    · intro qi qh qA aa wx hb hs hd
      match qi, qh, qA with
      | 0, _, _ => exact .inl ⟨rfl, op_ldT rfl rfl (hs 7 rfl) ((HE.out.to hb).get 5 rfl)⟩
      | qi + 1, h, _ => omega
    intro vs X4 hb hv hal hne
    replace HB := Hd.mk (bel_then HB.out hb)
    replace HE := Hd.mk (HE.out.to hb)
    have e36 : vs 36 = .agg #[.int .i64 Wd, .int .i64 Ht, .slice (some ⟨g18, 0, none⟩) ((List.replicate xs.length (0 : Int)).length) k18] := hv 0 (by decide) rfl
    simp only [PA, e36]
    clear hv hal hne hb e36
    refine wpList_st rfl rfl rfl rfl rfl (sto_T (HE.out.get 3 rfl)) ?_
    have HE' : Env (putL X4 (w.heap.size + 1 + 1 + 1) 0 [.int .i64 Wd, .int .i64 Ht, .slice (some ⟨g18, 0, none⟩) ((List.replicate xs.length (0 : Int)).length) k18]) [⟨w.heap.size, 84, [.int .i64 Wd, .int .i64 Ht]⟩, ⟨w.heap.size + 1, 31, [.int .i64 x, .int .i64 y, .int .i64 t, .bool f]⟩, ⟨w.heap.size + 1 + 1, 27, [.int .i64 Wd, .int .i64 Ht, .slice (some ad) xs.length k]⟩, ⟨w.heap.size + 1 + 1 + 1, 27, [.int .i64 Wd, .int .i64 Ht, .slice (some ⟨g18, 0, none⟩) ((List.replicate xs.length (0 : Int)).length) k18]⟩, ⟨g18, 3, ints (apS (fun q => toC Wd Ht x y t f q) xs xs.length) ++ rest18⟩, ⟨g7, 27, [.int .i64 Wd, .int .i64 Ht, .slice (some ⟨g18, 0, none⟩) ((List.replicate xs.length (0 : Int)).length) k18]⟩] := HE.out.putF 3 rfl rfl
    have HB' := putL_below (show w.heap.size ≤ w.heap.size + 1 + 1 + 1 from by omega) [.int .i64 Wd, .int .i64 Ht, .slice (some ⟨g18, 0, none⟩) ((List.replicate xs.length (0 : Int)).length) k18] _ 0 HB.out
    generalize putL X4 (w.heap.size + 1 + 1 + 1) 0 [.int .i64 Wd, .int .i64 Ht, .slice (some ⟨g18, 0, none⟩) ((List.replicate xs.length (0 : Int)).length) k18] = X5 at *
    replace HE := Hd.mk HE'
    replace HB := Hd.mk HB'
    clear HE' HB'
    go_wp2_with fail
    have k0a := HE.out.cell 3 0 rfl rfl
    have k0b := HE.out.cell 3 1 rfl rfl
    have k0c := HE.out.cell 3 2 rfl rfl
    refine bodyPost_ret (v := .agg #[.int .i64 Wd, .int .i64 Ht, .slice (some ⟨g18, 0, none⟩) ((List.replicate xs.length (0 : Int)).length) k18]) (by simp [results, Try.results52, go_sem, k0a, k0b, k0c]) rfl ?_
    exact ⟨_, rfl, HB.out, g18, k18, rest18, by rw [apL, apS_length, List.length_replicate], G18.out, by rw [apL, apS_length]; rw [List.length_replicate] at m18; exact m18, n18, HE.out.get 4 rfl⟩
set_option maxRecDepth 100000 in
set_option maxHeartbeats 1000000 in
theorem rapply_got (Wd Ht x y t : Int) (f : Bool) (ad : Addr) (k : Nat) (xs : List Int) (w : World) (hri : RI w (some ad) xs) (hk : Okm Wd Ht x y t) (hl : (xs.length : Int) = Wd * Ht) :
    Calls Try.prog 22 #[.agg #[.int .i64 x, .int .i64 y, .int .i64 t, .bool f], .agg #[.int .i64 Wd, .int .i64 Ht, .slice (some ad) xs.length k]] w (Got w (isFS w.heap.size Wd Ht (apL Wd Ht x y t f xs)).p) := by
  have HRI := Hd.mk hri
  have HK := Hd.mk hk
  have hwb := hk.w
  have hhb := hk.h
  have m1 := mul_small (a := Wd) (b := Ht) (by omega) (by omega)
  clear hri hk
  go_enter Try.func22, Try.ntmps22
  go_upto_region 1 with fail
  obtain ⟨W0, hW0⟩ : ∃ W : World, W = ((w.alloc (.cells #[.int .i64 x, .int .i64 y, .int .i64 t, .bool f] 26)).alloc (.cells #[.int .i64 Wd, .int .i64 Ht, .slice (some ad) xs.length k] 24)).alloc (.cells #[.int .i64 0, .int .i64 0, .slice none 0 0] 24) := ⟨_, rfl⟩
  rw [← hW0]
  obtain ⟨he, hb⟩ := env_three hW0
  have HE := Hd.mk he
  have HB := Hd.mk hb
  clear he hb hW0
  refine wp_region_vs 10 [8, 9, 10, 11, 12, 13, 14, 15, 16, 5] [0, 2, 4, 8] [9] 24 [.int .i64 0, .int .i64 0, .slice none 0 0] [isV (.pointer (some ⟨w.heap.size + 1, 0, none⟩)), isV (.int .i64 Wd), isV (.pointer (some ⟨w.heap.size + 1, 1, none⟩)), isV (.int .i64 Ht), isV (.pointer (some ⟨w.heap.size + 1, 2, none⟩)), isV (.slice (some ad) xs.length k), isV (.int .i64 (((xs.length : Nat) : Int))), isF W0.heap.size (List.replicate xs.length (0 : Int)), isFS W0.heap.size Wd Ht (List.replicate xs.length (0 : Int)), SP.any] (by kernel_rfl) (by kernel_rfl) (by kernel_rfl) (by rfl) alloc_U (fun d v c a w h => by cases d <;> exact h) ?_ ?_
  · intro qi qh qA aa wx hb hs hd
    match qi, qh, qA with
    | 0, _, _ => exact ⟨_, op_faU0 rfl (hs 3 rfl), rfl⟩
    | 1, _, _ => exact op_ldI rfl rfl (hd 0 rfl) ((HE.out.to hb).cell 1 0 rfl rfl)
    | 2, _, _ => exact ⟨_, op_faU1 rfl (hs 3 rfl), rfl⟩
    | 3, _, _ => exact op_ldI rfl rfl (hd 2 rfl) ((HE.out.to hb).cell 1 1 rfl rfl)
    | 4, _, _ => exact ⟨_, op_faU2 rfl (hs 3 rfl), rfl⟩
    | 5, _, _ => exact op_ldS rfl rfl (hd 4 rfl) ((HE.out.to hb).cell 1 2 rfl rfl)
    | 6, _, _ => exact op_len rfl rfl (hd 5 rfl)
    | 7, _, _ => exact op_make (by omega) rfl rfl (hd 6 rfl) (hd 6 rfl) W0.heap.size hb.size
    | 8, _, _ => exact op_buUF rfl (hd 1 rfl) (hd 3 rfl) (hd 7 rfl)
    | 9, _, h => cases h
    | qi + 10, h, _ => omega
  intro vs X1 hb hv hal hne
  have HL0 := Hd.mk (HE.out.lt)
  have HBW := HB
  replace HB := Hd.mk (bel_then HB.out hb)
  replace HE := Hd.mk (HE.out.to hb)
  have t16 : (isFS W0.heap.size Wd Ht (List.replicate xs.length (0 : Int))).p (vs 16) X1 := hv 8 (by decide) rfl
  obtain ⟨g16, k16, rest16, e16, l16, m16, n16, b16⟩ := t16
  replace HE : Hd (Env X1 [⟨w.heap.size, 26, [.int .i64 x, .int .i64 y, .int .i64 t, .bool f]⟩, ⟨w.heap.size + 1, 24, [.int .i64 Wd, .int .i64 Ht, .slice (some ad) xs.length k]⟩, ⟨w.heap.size + 1 + 1, 24, [.int .i64 0, .int .i64 0, .slice none 0 0]⟩, ⟨g16, 3, ints (List.replicate xs.length (0 : Int)) ++ rest16⟩]) := ⟨Env.addne (e := ⟨g16, 3, ints (List.replicate xs.length (0 : Int)) ++ rest16⟩) HE.out b16 (fun e' he => Nat.ne_of_lt (Nat.lt_of_lt_of_le (HL0.out e' he) l16))⟩
  have G16 : Hd (w.heap.size ≤ g16) := ⟨Nat.le_trans HBW.out.size l16⟩
  obtain ⟨g5, e5, l5, b5⟩ : ∃ g, vs 5 = .pointer (some ⟨g, 0, none⟩) ∧ _ := hal 9 rfl
  replace HE : Hd (Env X1 [⟨w.heap.size, 26, [.int .i64 x, .int .i64 y, .int .i64 t, .bool f]⟩, ⟨w.heap.size + 1, 24, [.int .i64 Wd, .int .i64 Ht, .slice (some ad) xs.length k]⟩, ⟨w.heap.size + 1 + 1, 24, [.int .i64 0, .int .i64 0, .slice none 0 0]⟩, ⟨g16, 3, ints (List.replicate xs.length (0 : Int)) ++ rest16⟩, ⟨g5, 24, [.int .i64 0, .int .i64 0, .slice none 0 0]⟩]) := ⟨Env.addne (e := ⟨g5, 24, [.int .i64 0, .int .i64 0, .slice none 0 0]⟩) HE.out b5 (fun e' he => (List.mem_append.1 (show e' ∈ _ ++ [_] from he)).elim (fun he => Nat.ne_of_lt (Nat.lt_of_lt_of_le (HL0.out e' he) l5)) (fun he => by rw [List.mem_singleton.1 he]; exact blk_ne b16 b5 (by decide)))⟩
  have G5 : Hd (w.heap.size ≤ g5) := ⟨Nat.le_trans HBW.out.size l5⟩
  simp only [PA, e16, e5]
  clear hv hal hne hb HL0 HBW e16 e5 l16 b16 l5 b5
  refine wpList_st rfl rfl rfl rfl rfl (sto_U (HE.out.get 4 rfl)) ?_
  have HE' : Env (putL X1 g5 0 [.int .i64 Wd, .int .i64 Ht, .slice (some ⟨g16, 0, none⟩) ((List.replicate xs.length (0 : Int)).length) k16]) [⟨w.heap.size, 26, [.int .i64 x, .int .i64 y, .int .i64 t, .bool f]⟩, ⟨w.heap.size + 1, 24, [.int .i64 Wd, .int .i64 Ht, .slice (some ad) xs.length k]⟩, ⟨w.heap.size + 1 + 1, 24, [.int .i64 0, .int .i64 0, .slice none 0 0]⟩, ⟨g16, 3, ints (List.replicate xs.length (0 : Int)) ++ rest16⟩, ⟨g5, 24, [.int .i64 Wd, .int .i64 Ht, .slice (some ⟨g16, 0, none⟩) ((List.replicate xs.length (0 : Int)).length) k16]⟩] := HE.out.putF 4 rfl rfl
  have HB' := putL_below (show w.heap.size ≤ g5 from G5.out) [.int .i64 Wd, .int .i64 Ht, .slice (some ⟨g16, 0, none⟩) ((List.replicate xs.length (0 : Int)).length) k16] _ 0 HB.out
  generalize putL X1 g5 0 [.int .i64 Wd, .int .i64 Ht, .slice (some ⟨g16, 0, none⟩) ((List.replicate xs.length (0 : Int)).length) k16] = X2 at *
  replace HE := Hd.mk HE'
  replace HB := Hd.mk HB'
  clear HE' HB'
  go_upto_region 2 with fail
  refine wp_region_vd 4 [17, 18, 19, 20] [0, 3] [] 84 [.int .i64 0, .int .i64 0] [isV (.pointer (some ⟨w.heap.size + 1, 2, none⟩)), isV (.slice (some ad) xs.length k), isV (.int .i64 (((xs.length : Nat) : Int))), isV (.int .i64 0)] (by rfl) alloc_Z ?_ ?_
  · intro qi qh qA aa wx hb hs hd
    match qi, qh, qA with
    | 0, _, _ => exact .inl ⟨rfl, ⟨_, op_faU2 rfl (hs 3 rfl), rfl⟩⟩
    | 1, _, _ => exact .inl ⟨rfl, op_ldS rfl rfl (hd 0 rfl) ((HE.out.to hb).cell 1 2 rfl rfl)⟩
    | 2, _, _ => exact .inl ⟨rfl, op_len rfl rfl (hd 1 rfl)⟩
    | 3, _, _ => exact .inl ⟨rfl, op_mv rfl rfl⟩
    | qi + 4, h, _ => omega
  intro vs X3 hb hv hal hne
  replace HB := Hd.mk (bel_then HB.out hb)
  replace HE := Hd.mk (HE.out.to hb)
  have e18 : vs 18 = .slice (some ad) xs.length k := hv 1 (by decide) rfl
  have e19 : vs 19 = .int .i64 (((xs.length : Nat) : Int)) := hv 2 (by decide) rfl
  have e20 : vs 20 = .int .i64 0 := hv 3 (by decide) rfl
  simp only [PA, e18, e19, e20]
  clear hv hal hne hb e18 e19 e20
  go_wp2_with fail
  go_loopw [6, 7, 20] (fun si sc sq wr => ∃ q : Nat, q ≤ xs.length ∧ sq = .int .i64 q ∧ Env wr [⟨w.heap.size, 26, [.int .i64 x, .int .i64 y, .int .i64 t, .bool f]⟩, ⟨w.heap.size + 1, 24, [.int .i64 Wd, .int .i64 Ht, .slice (some ad) xs.length k]⟩, ⟨w.heap.size + 1 + 1, 24, [.int .i64 0, .int .i64 0, .slice none 0 0]⟩, ⟨g16, 3, ints (apS (fun q => toC Wd Ht x y t f q) xs q) ++ rest16⟩, ⟨g5, 24, [.int .i64 Wd, .int .i64 Ht, .slice (some ⟨g16, 0, none⟩) ((List.replicate xs.length (0 : Int)).length) k16]⟩] ∧ Below w.heap.size w wr) (fun _ _ sq _ => xs.length - (intOf sq).toNat)
  case atStart => exact ⟨0, Nat.zero_le _, rfl, HE.out, HB.out⟩
  case round =>
    obtain ⟨q, hq, rfl, he, hb⟩ := hrel
    clear HB HE
    have HB := Hd.mk hb
    have HE : Hd (Env wr [⟨w.heap.size, 26, [.int .i64 x, .int .i64 y, .int .i64 t, .bool f]⟩, ⟨w.heap.size + 1, 24, [.int .i64 Wd, .int .i64 Ht, .slice (some ad) xs.length k]⟩, ⟨w.heap.size + 1 + 1, 24, [.int .i64 0, .int .i64 0, .slice none 0 0]⟩, ⟨g16, 3, ints (apS (fun q => toC Wd Ht x y t f q) xs q) ++ rest16⟩, ⟨g5, 24, [.int .i64 Wd, .int .i64 Ht, .slice (some ⟨g16, 0, none⟩) ((List.replicate xs.length (0 : Int)).length) k16]⟩]) := ⟨he⟩
    clear he hb
    have htl := toC_lt (i := (q : Int)) f HK.out
    by_cases hlt : q < xs.length
    · go_upto_region 4 with fail
      refine wp_region_vd 3 [22, 23, 24] [0] [] 84 [.int .i64 0, .int .i64 0] [isV (.int .i64 (((q : Nat) : Int))), isV (.pointer (some (Addr.add ad (((q : Nat) : Int)).toNat))), isV (.int .i64 (xs.getD q 0))] (by rfl) alloc_Z ?_ ?_
      · intro qi qh qA aa wx hb hs hd
        match qi, qh, qA with
        | 0, _, _ => exact .inl ⟨rfl, op_mv rfl (hs 20 rfl)⟩
        | 1, _, _ => exact .inl ⟨rfl, op_run rfl (op_idx (by omega) (by omega) rfl (hs 18 rfl) (hs 20 rfl) _) rfl⟩
        | 2, _, _ => exact .inl ⟨rfl, op_ldAt rfl rfl (hd 1 rfl) ((HRI.out.to (bel_then HB.out hb)).cellq hlt)⟩
        | qi + 3, h, _ => omega
      intro vs X4 hb hv hal hne
      replace HB := Hd.mk (bel_then HB.out hb)
      replace HE := Hd.mk (HE.out.to hb)
      have e22 : vs 22 = .int .i64 (((q : Nat) : Int)) := hv 0 (by decide) rfl
      have e24 : vs 24 = .int .i64 (xs.getD q 0) := hv 2 (by decide) rfl
      simp only [PA, e22, e24]
      clear hv hal hne hb e22 e24
      go_upto_region 5 with fail
      refine wp_region_vs 11 [25, 26, 27, 28, 29, 30, 31, 32, 33, 34, 35] [0, 2, 4, 7, 9] [] 84 [.int .i64 0, .int .i64 0] [isV (.pointer (some ⟨g5, 2, none⟩)), isV (.slice (some ⟨g16, 0, none⟩) ((List.replicate xs.length (0 : Int)).length) k16), isV (.pointer (some ⟨w.heap.size + 1, 0, none⟩)), isV (.int .i64 Wd), isV (.pointer (some ⟨w.heap.size + 1, 1, none⟩)), isV (.int .i64 Ht), isV (.agg #[.int .i64 x, .int .i64 y, .int .i64 t, .bool f]), isV (.int .i64 (((q : Nat) : Int))), isV (.int .i64 (toC Wd Ht x y t f (((q : Nat) : Int)))), isV (.int .i64 (xs.getD q 0)), isV (.pointer (some (Addr.add (⟨g16, 0, none⟩) (toC Wd Ht x y t f (((q : Nat) : Int))).toNat)))] (by kernel_rfl) (by kernel_rfl) (by kernel_rfl) (by rfl) alloc_Z (fun d v c a w h => by cases d <;> exact h) ?_ ?_
      · intro qi qh qA aa wx hb hs hd
        match qi, qh, qA with
        | 0, _, _ => exact ⟨_, op_faU2 rfl (hs 5 rfl), rfl⟩
        | 1, _, _ => exact op_ldS rfl rfl (hd 0 rfl) ((HE.out.to hb).cell 4 2 rfl rfl)
        | 2, _, _ => exact ⟨_, op_faU0 rfl (hs 3 rfl), rfl⟩
        | 3, _, _ => exact op_ldI rfl rfl (hd 2 rfl) ((HE.out.to hb).cell 1 0 rfl rfl)
        | 4, _, _ => exact ⟨_, op_faU1 rfl (hs 3 rfl), rfl⟩
        | 5, _, _ => exact op_ldI rfl rfl (hd 4 rfl) ((HE.out.to hb).cell 1 1 rfl rfl)
        | 6, _, _ => exact op_ldN rfl rfl (hs 2 rfl) ((HE.out.to hb).get 0 rfl)
        | 7, _, _ => exact op_mv rfl (hs 6 rfl)
        | 8, _, _ => exact op_call4 rfl rfl Try.call56 (by rw [(show aa.eval (.tmp 28) = .int .i64 Wd from (hd 3 rfl)), (show aa.eval (.tmp 30) = .int .i64 Ht from (hd 5 rfl)), (show aa.eval (.tmp 31) = .agg #[.int .i64 x, .int .i64 y, .int .i64 t, .bool f] from (hd 6 rfl)), (show aa.eval (.tmp 32) = .int .i64 (((q : Nat) : Int)) from (hd 7 rfl))]; exact goes_got Wd Ht x y t (((q : Nat) : Int)) f HK.out (by omega) _)
        | 9, _, _ => exact op_mv rfl (hs 7 rfl)
        | 10, _, _ => exact op_run rfl (op_idx (by omega) (by rw [List.length_replicate]; omega) rfl (hd 1 rfl) (hd 8 rfl) _) rfl
        | qi + 11, h, _ => omega
      intro vs X5 hb hv hal hne
      replace HB := Hd.mk (bel_then HB.out hb)
      replace HE := Hd.mk (HE.out.to hb)
      have e35 : vs 35 = .pointer (some (Addr.add (⟨g16, 0, none⟩) (toC Wd Ht x y t f (((q : Nat) : Int))).toNat)) := hv 10 (by decide) rfl
      have e34 : vs 34 = .int .i64 (xs.getD q 0) := hv 9 (by decide) rfl
      simp only [PA, e35, e34]
      clear hv hal hne hb e35 e34
      refine wpList_st rfl rfl rfl rfl rfl (sto_at (HE.out.get 3 rfl) (by rw [apS_length]; omega)) ?_
      have HE' : Env (putL X5 g16 (toC Wd Ht x y t f (((q : Nat) : Int))).toNat [.int .i64 (xs.getD q 0)]) [⟨w.heap.size, 26, [.int .i64 x, .int .i64 y, .int .i64 t, .bool f]⟩, ⟨w.heap.size + 1, 24, [.int .i64 Wd, .int .i64 Ht, .slice (some ad) xs.length k]⟩, ⟨w.heap.size + 1 + 1, 24, [.int .i64 0, .int .i64 0, .slice none 0 0]⟩, ⟨g16, 3, ints (((apS (fun q => toC Wd Ht x y t f q) xs q)).set (toC Wd Ht x y t f (((q : Nat) : Int))).toNat (xs.getD q 0)) ++ rest16⟩, ⟨g5, 24, [.int .i64 Wd, .int .i64 Ht, .slice (some ⟨g16, 0, none⟩) ((List.replicate xs.length (0 : Int)).length) k16]⟩] := HE.out.putI 3 rfl (by rw [apS_length]; omega)
      have HB' := putL_below (show w.heap.size ≤ g16 from G16.out) [.int .i64 (xs.getD q 0)] _ ((toC Wd Ht x y t f (((q : Nat) : Int))).toNat) HB.out
      generalize putL X5 g16 (toC Wd Ht x y t f (((q : Nat) : Int))).toNat [.int .i64 (xs.getD q 0)] = X6 at *
      replace HE := Hd.mk HE'
      replace HB := Hd.mk HB'
      clear HE' HB'
      go_wp2_with fail
      go_roundw
      case rel => exact ⟨q + 1, by omega, by go_num, HE.out, HB.out⟩
      case measure => simp [intOf]; omega
    have hqe : q = xs.length := by omega
    subst hqe
    go_upto_region 7 with fail
    refine wp_region_vd 1 [37] [] [] 84 [.int .i64 0, .int .i64 0] [isV (.agg #[.int .i64 Wd, .int .i64 Ht, .slice (some ⟨g16, 0, none⟩) ((List.replicate xs.length (0 : Int)).length) k16])] (by rfl) alloc_Z ?_ ?_
    · intro qi qh qA aa wx hb hs hd
      match qi, qh, qA with
      | 0, _, _ => exact .inl ⟨rfl, op_ldU rfl rfl (hs 5 rfl) ((HE.out.to hb).get 4 rfl)⟩
      | qi + 1, h, _ => omega
    intro vs X4 hb hv hal hne
    replace HB := Hd.mk (bel_then HB.out hb)
    replace HE := Hd.mk (HE.out.to hb)
    have e37 : vs 37 = .agg #[.int .i64 Wd, .int .i64 Ht, .slice (some ⟨g16, 0, none⟩) ((List.replicate xs.length (0 : Int)).length) k16] := hv 0 (by decide) rfl
    simp only [PA, e37]
    clear hv hal hne hb e37
    refine wpList_st rfl rfl rfl rfl rfl (sto_U (HE.out.get 2 rfl)) ?_
    have HE' : Env (putL X4 (w.heap.size + 1 + 1) 0 [.int .i64 Wd, .int .i64 Ht, .slice (some ⟨g16, 0, none⟩) ((List.replicate xs.length (0 : Int)).length) k16]) [⟨w.heap.size, 26, [.int .i64 x, .int .i64 y, .int .i64 t, .bool f]⟩, ⟨w.heap.size + 1, 24, [.int .i64 Wd, .int .i64 Ht, .slice (some ad) xs.length k]⟩, ⟨w.heap.size + 1 + 1, 24, [.int .i64 Wd, .int .i64 Ht, .slice (some ⟨g16, 0, none⟩) ((List.replicate xs.length (0 : Int)).length) k16]⟩, ⟨g16, 3, ints (apS (fun q => toC Wd Ht x y t f q) xs xs.length) ++ rest16⟩, ⟨g5, 24, [.int .i64 Wd, .int .i64 Ht, .slice (some ⟨g16, 0, none⟩) ((List.replicate xs.length (0 : Int)).length) k16]⟩] := HE.out.putF 2 rfl rfl
    have HB' := putL_below (show w.heap.size ≤ w.heap.size + 1 + 1 from by omega) [.int .i64 Wd, .int .i64 Ht, .slice (some ⟨g16, 0, none⟩) ((List.replicate xs.length (0 : Int)).length) k16] _ 0 HB.out
    generalize putL X4 (w.heap.size + 1 + 1) 0 [.int .i64 Wd, .int .i64 Ht, .slice (some ⟨g16, 0, none⟩) ((List.replicate xs.length (0 : Int)).length) k16] = X5 at *
    replace HE := Hd.mk HE'
    replace HB := Hd.mk HB'
    clear HE' HB'
    go_wp2_with fail
    have k0a := HE.out.cell 2 0 rfl rfl
    have k0b := HE.out.cell 2 1 rfl rfl
    have k0c := HE.out.cell 2 2 rfl rfl
    refine bodyPost_ret (v := .agg #[.int .i64 Wd, .int .i64 Ht, .slice (some ⟨g16, 0, none⟩) ((List.replicate xs.length (0 : Int)).length) k16]) (by simp [results, Try.results22, go_sem, k0a, k0b, k0c]) rfl ?_
    exact ⟨_, rfl, HB.out, g16, k16, rest16, by rw [apL, apS_length, List.length_replicate], G16.out, by rw [apL, apS_length]; rw [List.length_replicate] at m16; exact m16, n16, HE.out.get 3 rfl⟩
end Go.Proofs.Ytddbmckbankmeaa
set_option linter.unusedVariables false
set_option linter.unusedSimpArgs false
namespace Go.Proofs.Ytddbmckbankmeaa
open Go.RowKit
section
variable {P : Program} {Q : Exit → Act → World → Prop} {ops : Array Oper} {rest : List Oper} {o : Oper} {a : Act} {w : World} {v : Value}
theorem wpList_run (hg : o.guard = none) (hr : (execOp a.eval o).run P w = .ok (.value v) w) (h : wpList P ops Q rest (a.put o.dst v) w) : wpList P ops Q (o :: rest) a w := by
  unfold wpList
  rw [if_pos (by simp [Region.wanted, hg])]
  refine .inl ?_
  unfold Oper.wp
  rw [hr]
  exact h
end
section
variable {Q : Exit → Act → World → Prop} {o : Oper} {a : Act} {w : World} {d : Nat} {x y : Operand} {b1 : Int} {c : Bool} {n1 n2 : Int}
theorem op_buM0 (ho : o.op = .build 31 #[(0, x)]) (h0 : a.eval x = .int .i64 b1) (w : World) : (execOp a.eval o).run Try.prog w = .ok (.value (.agg #[.int .i64 b1, .int .i64 0, .int .i64 0, .bool false])) w := by
  generalize a.eval = ev at h0 ⊢
  unfold execOp
  simp only [ho]
  simp [go_sem, h0]
theorem op_lit2 (ho : o.op = .buildSlice 22 2 #[(0, .const (.int .i64 n1)), (1, .const (.int .i64 n2))]) (hd : o.dst = some d) (lo : Nat) (hl : lo ≤ w.heap.size) : o.wp Try.prog a w (Post a w d (isF lo [n1, n2]).p) Q := by
  have hr : (execOp a.eval o).run Try.prog w = .ok (.value (.slice (some ⟨w.heap.size, 0, none⟩) 2 2)) (w.alloc (.cells #[.int .i64 n1, .int .i64 n2] 3)) := by
    have h1 : a.eval (.const (.int .i64 n1)) = .int .i64 n1 := rfl
    have h2 : a.eval (.const (.int .i64 n2)) = .int .i64 n2 := rfl
    generalize a.eval = ev at h1 h2 ⊢
    unfold execOp
    simp only [ho]
    simp [go_sem, h1, h2]
  unfold Oper.wp
  rw [hr]
  show Post a w d _ (a.put o.dst _) _
  rw [hd]
  have hB : Blk (w.alloc (.cells #[.int .i64 n1, .int .i64 n2] 3)) w.heap.size 3 [.int .i64 n1, .int .i64 n2] := heap_alloc_new _ _
  exact ⟨_, rfl, below_alloc (Below.refl _ _) _, w.heap.size, 2, [], rfl, hl, Nat.le_refl _, by omega, by simpa [ints] using hB⟩
end
theorem valid_some {w : World} {A : Option Addr} {xs : List Int} {W H : Int} (hr : RI w A xs) (h : validB W H xs = true) : ∃ ad, A = some ad := by
  unfold validB at h
  simp only [Bool.and_eq_true, decide_eq_true_eq] at h
  obtain ⟨hw, hh⟩ := sizeB_bounds h.1
  have h1 : 1 * 1 ≤ W * H := Int.mul_le_mul hw.1 hh.1 (by omega) (by omega)
  obtain ⟨ad, e, _⟩ := hr.at_ (k := 0) (by omega)
  exact ⟨ad, e⟩
theorem valid_len {xs : List Int} {W H : Int} (h : validB W H xs = true) : (xs.length : Int) = W * H := by
  unfold validB at h
  simp only [Bool.and_eq_true, decide_eq_true_eq] at h
  exact h.2.1
theorem valid_size {xs : List Int} {W H : Int} (h : validB W H xs = true) : sizeB W H = true := by
  unfold validB at h
  simp only [Bool.and_eq_true] at h
  exact h.1
theorem valid_no {xs : List Int} {W H : Int} {q : Nat} (h : badc (xs.getD q 0) = true) (hq : q < xs.length) : validB W H xs = false := by
  have : xs.any badc = true := by
    rw [List.any_eq_true]
    exact ⟨xs[q], List.getElem_mem hq, by rwa [show xs.getD q 0 = xs[q] by simp [hq]] at h⟩
  unfold validB
  rw [this]
  simp
theorem valid_yes {xs : List Int} {W H : Int} (h1 : sizeB W H = true) (h2 : (xs.length : Int) = W * H) (h : ∀ j : Nat, j < xs.length → badc (xs.getD j 0) = false) : validB W H xs = true := by
  have : xs.any badc = false := by
    rw [List.any_eq_false]
    intro x hx
    obtain ⟨j, hj, rfl⟩ := List.getElem_of_mem hx
    have := h j hj
    simpa [hj] using this
  unfold validB
  rw [this, h1, decide_eq_true h2]
  rfl
set_option maxRecDepth 100000 in
set_option maxHeartbeats 1000000 in
theorem rValid_got (Wd Ht : Int) (A : Option Addr) (k : Nat) (xs : List Int) (w : World) (hri : RI w A xs) :
    Calls Try.prog 17 #[.agg #[.int .i64 Wd, .int .i64 Ht, .slice A xs.length k]] w (Got w (isV (.bool (validB Wd Ht xs))).p) := by
  have HRI := Hd.mk hri
  clear hri
  by_cases h1 : sizeB Wd Ht = true
  · have m1 := size_mul h1
    have K1 := Hd.mk h1
    by_cases h2 : (xs.length : Int) = Wd * Ht
    · have K2 : Hd ((!decide (((xs.length : Nat) : Int) = Wd * Ht)) = false) := ⟨by rw [decide_eq_true h2]; rfl⟩
      have hl : xs.length ≤ 64 := by omega
      have K4 := Hd.mk h2
      clear h1 h2
      go_enter Try.func17, Try.ntmps17
      go_upto_region 1 with fail
      obtain ⟨W0, hW0⟩ : ∃ W : World, W = w.alloc (.cells #[.int .i64 Wd, .int .i64 Ht, .slice A xs.length k] 24) := ⟨_, rfl⟩
      rw [← hW0]
      obtain ⟨he, hb⟩ := env_one hW0
      have HE := Hd.mk he
      have HB := Hd.mk hb
      clear he hb hW0
      refine wp_region_vd 17 [5, 6, 7, 8, 9, 10, 11, 12, 13, 14, 15, 16, 17, 18, 19, 20, 21] [0, 2, 5, 6, 7, 10, 12, 14, 15, 16] [] 84 [.int .i64 0, .int .i64 0] [isV (.pointer (some ⟨w.heap.size, 0, none⟩)), isV (.int .i64 Wd), isV (.pointer (some ⟨w.heap.size, 1, none⟩)), isV (.int .i64 Ht), isV (.bool true), isV (.bool false), isV (.bool false), isV (.pointer (some ⟨w.heap.size, 2, none⟩)), isV (.slice A xs.length k), isV (.int .i64 (((xs.length : Nat) : Int))), isV (.pointer (some ⟨w.heap.size, 0, none⟩)), isV (.int .i64 Wd), isV (.pointer (some ⟨w.heap.size, 1, none⟩)), isV (.int .i64 Ht), isV (.int .i64 (Wd * Ht)), isV (.bool false), isV (.bool false)] (by rfl) alloc_Z ?_ ?_
      · intro qi qh qA aa wx hb hs hd
        match qi, qh, qA with
        | 0, _, _ => exact .inl ⟨rfl, ⟨_, op_faU0 rfl (hs 1 rfl), rfl⟩⟩
        | 1, _, _ => exact .inl ⟨rfl, op_ldI rfl rfl (hd 0 rfl) ((HE.out.to hb).cell 0 0 rfl rfl)⟩
        | 2, _, _ => exact .inl ⟨rfl, ⟨_, op_faU1 rfl (hs 1 rfl), rfl⟩⟩
        | 3, _, _ => exact .inl ⟨rfl, op_ldI rfl rfl (hd 2 rfl) ((HE.out.to hb).cell 0 1 rfl rfl)⟩
        | 4, _, _ => exact .inl ⟨rfl, wp_b (bool_eq K1.out) (op_call2 rfl rfl Try.call25 (by rw [(show aa.eval (.tmp 6) = .int .i64 Wd from (hd 1 rfl)), (show aa.eval (.tmp 8) = .int .i64 Ht from (hd 3 rfl))]; exact rSize_got Wd Ht _))⟩
        | 5, _, _ => exact .inl ⟨rfl, ⟨_, op_not rfl (hd 4 rfl), rfl⟩⟩
        | 6, _, _ => exact .inl ⟨rfl, op_mv rfl (hd 5 rfl)⟩
        | 7, _, _ => exact .inl ⟨⟨rfl, .inl (hd 6 rfl)⟩, ⟨_, op_faU2 rfl (hs 1 rfl), rfl⟩⟩
        | 8, _, _ => exact .inl ⟨⟨rfl, .inl (hd 6 rfl)⟩, op_ldS rfl rfl (hd 7 rfl) ((HE.out.to hb).cell 0 2 rfl rfl)⟩
        | 9, _, _ => exact .inl ⟨⟨rfl, .inl (hd 6 rfl)⟩, op_len rfl rfl (hd 8 rfl)⟩
        | 10, _, _ => exact .inl ⟨⟨rfl, .inl (hd 6 rfl)⟩, ⟨_, op_faU0 rfl (hs 1 rfl), rfl⟩⟩
        | 11, _, _ => exact .inl ⟨⟨rfl, .inl (hd 6 rfl)⟩, op_ldI rfl rfl (hd 10 rfl) ((HE.out.to hb).cell 0 0 rfl rfl)⟩
        | 12, _, _ => exact .inl ⟨⟨rfl, .inl (hd 6 rfl)⟩, ⟨_, op_faU1 rfl (hs 1 rfl), rfl⟩⟩
        | 13, _, _ => exact .inl ⟨⟨rfl, .inl (hd 6 rfl)⟩, op_ldI rfl rfl (hd 12 rfl) ((HE.out.to hb).cell 0 1 rfl rfl)⟩
        | 14, _, _ => exact .inl ⟨⟨rfl, .inl (hd 6 rfl)⟩, ⟨_, op_mul (by unfold Fit; omega) rfl (hd 11 rfl) (hd 13 rfl), rfl⟩⟩
        | 15, _, _ => exact .inl ⟨⟨rfl, .inl (hd 6 rfl)⟩, pure_b (bool_eq K2.out) (⟨_, op_neqI rfl (hd 9 rfl) (hd 14 rfl), rfl⟩)⟩
        | 16, _, _ => exact .inl ⟨rfl, ⟨_, op_pickF rfl (hd 6 rfl) (hd 15 rfl), rfl⟩⟩
        | qi + 17, h, _ => omega
      intro vs X1 hb hv hal hne
      replace HB := Hd.mk (bel_then HB.out hb)
      replace HE := Hd.mk (HE.out.to hb)
      have e21 : vs 21 = .bool false := hv 16 (by decide) rfl
      simp only [PA, e21]
      clear hv hal hne hb e21
      go_upto_region 3 with fail
      refine wp_region_vd 4 [22, 23, 24, 25] [0, 3] [] 84 [.int .i64 0, .int .i64 0] [isV (.pointer (some ⟨w.heap.size, 2, none⟩)), isV (.slice A xs.length k), isV (.int .i64 (((xs.length : Nat) : Int))), isV (.int .i64 0)] (by rfl) alloc_Z ?_ ?_
      · intro qi qh qA aa wx hb hs hd
        match qi, qh, qA with
        | 0, _, _ => exact .inl ⟨rfl, ⟨_, op_faU2 rfl (hs 1 rfl), rfl⟩⟩
        | 1, _, _ => exact .inl ⟨rfl, op_ldS rfl rfl (hd 0 rfl) ((HE.out.to hb).cell 0 2 rfl rfl)⟩
        | 2, _, _ => exact .inl ⟨rfl, op_len rfl rfl (hd 1 rfl)⟩
        | 3, _, _ => exact .inl ⟨rfl, op_mv rfl rfl⟩
        | qi + 4, h, _ => omega
      intro vs X2 hb hv hal hne
      replace HB := Hd.mk (bel_then HB.out hb)
      replace HE := Hd.mk (HE.out.to hb)
      have e23 : vs 23 = .slice A xs.length k := hv 1 (by decide) rfl
      have e24 : vs 24 = .int .i64 (((xs.length : Nat) : Int)) := hv 2 (by decide) rfl
      have e25 : vs 25 = .int .i64 0 := hv 3 (by decide) rfl
      simp only [PA, e23, e24, e25]
      clear hv hal hne hb e23 e24 e25
      go_wp2_with fail
      go_loopw [4, 25] (fun s4 s25 wr => ∃ q : Nat, q ≤ xs.length ∧ s25 = .int .i64 q ∧ (∀ j : Nat, j < q → badc (xs.getD j 0) = false) ∧ Below w.heap.size w wr) (fun _ s25 _ => xs.length - (intOf s25).toNat)
      case atStart => exact ⟨0, Nat.zero_le _, rfl, (fun j hj => absurd hj (by omega)), HB.out⟩
      case round =>
        obtain ⟨q, hq, rfl, hno, hb⟩ := hrel
        clear HB HE
        have HB := Hd.mk hb
        have HNO := Hd.mk hno
        clear hb hno
        by_cases hlt : q < xs.length
        · obtain ⟨ad, rfl, hcell⟩ := (HRI.out.to HB.out).at_ hlt
          obtain ⟨c, hc⟩ : ∃ c, c = xs.getD q 0 := ⟨_, rfl⟩
          rw [← hc] at hcell
          have HC := Hd.mk hc
          clear hc
          by_cases h1 : c < 0
          · have HV := Hd.mk (valid_no (W := Wd) (H := Ht) (q := q) (by rw [← HC.out]; unfold badc; simp [h1]) hlt)
            go_wp2
            go_ret
            exact ⟨_, rfl, HB.out, by show Value.bool false = _; rw [HV.out]⟩
          by_cases h2 : 7 < c
          · have HV := Hd.mk (valid_no (W := Wd) (H := Ht) (q := q) (by rw [← HC.out]; unfold badc; simp; omega) hlt)
            go_wp2
            go_ret
            exact ⟨_, rfl, HB.out, by show Value.bool false = _; rw [HV.out]⟩
          have HG : Hd (badc c = false) := ⟨by unfold badc; simp; omega⟩
          go_wp2
          go_roundw
          case rel => exact ⟨q + 1, by omega, by go_num, no_more HNO.out (by rw [← HC.out]; exact HG.out), HB.out⟩
          case measure => simp [intOf]; omega
        have hqe : q = xs.length := by omega
        subst hqe
        have HV := Hd.mk (valid_yes K1.out K4.out HNO.out)
        go_wp2
        go_ret
        exact ⟨_, rfl, HB.out, by show Value.bool true = _; rw [HV.out]⟩
    have K2 : Hd ((!decide (((xs.length : Nat) : Int) = Wd * Ht)) = true) := ⟨by rw [decide_eq_false h2]; rfl⟩
    rw [show validB Wd Ht xs = false by unfold validB; rw [h1, decide_eq_false h2]; rfl]
    clear h1 h2
    go_enter Try.func17, Try.ntmps17
    go_upto_region 1 with fail
    obtain ⟨W0, hW0⟩ : ∃ W : World, W = w.alloc (.cells #[.int .i64 Wd, .int .i64 Ht, .slice A xs.length k] 24) := ⟨_, rfl⟩
    rw [← hW0]
    obtain ⟨he, hb⟩ := env_one hW0
    have HE := Hd.mk he
    have HB := Hd.mk hb
    clear he hb hW0
    refine wp_region_vd 17 [5, 6, 7, 8, 9, 10, 11, 12, 13, 14, 15, 16, 17, 18, 19, 20, 21] [0, 2, 5, 6, 7, 10, 12, 14, 15, 16] [] 84 [.int .i64 0, .int .i64 0] [isV (.pointer (some ⟨w.heap.size, 0, none⟩)), isV (.int .i64 Wd), isV (.pointer (some ⟨w.heap.size, 1, none⟩)), isV (.int .i64 Ht), isV (.bool true), isV (.bool false), isV (.bool false), isV (.pointer (some ⟨w.heap.size, 2, none⟩)), isV (.slice A xs.length k), isV (.int .i64 (((xs.length : Nat) : Int))), isV (.pointer (some ⟨w.heap.size, 0, none⟩)), isV (.int .i64 Wd), isV (.pointer (some ⟨w.heap.size, 1, none⟩)), isV (.int .i64 Ht), isV (.int .i64 (Wd * Ht)), isV (.bool true), isV (.bool true)] (by rfl) alloc_Z ?_ ?_
    · intro qi qh qA aa wx hb hs hd
      match qi, qh, qA with
      | 0, _, _ => exact .inl ⟨rfl, ⟨_, op_faU0 rfl (hs 1 rfl), rfl⟩⟩
      | 1, _, _ => exact .inl ⟨rfl, op_ldI rfl rfl (hd 0 rfl) ((HE.out.to hb).cell 0 0 rfl rfl)⟩
      | 2, _, _ => exact .inl ⟨rfl, ⟨_, op_faU1 rfl (hs 1 rfl), rfl⟩⟩
      | 3, _, _ => exact .inl ⟨rfl, op_ldI rfl rfl (hd 2 rfl) ((HE.out.to hb).cell 0 1 rfl rfl)⟩
      | 4, _, _ => exact .inl ⟨rfl, wp_b (bool_eq K1.out) (op_call2 rfl rfl Try.call25 (by rw [(show aa.eval (.tmp 6) = .int .i64 Wd from (hd 1 rfl)), (show aa.eval (.tmp 8) = .int .i64 Ht from (hd 3 rfl))]; exact rSize_got Wd Ht _))⟩
      | 5, _, _ => exact .inl ⟨rfl, ⟨_, op_not rfl (hd 4 rfl), rfl⟩⟩
      | 6, _, _ => exact .inl ⟨rfl, op_mv rfl (hd 5 rfl)⟩
      | 7, _, _ => exact .inl ⟨⟨rfl, .inl (hd 6 rfl)⟩, ⟨_, op_faU2 rfl (hs 1 rfl), rfl⟩⟩
      | 8, _, _ => exact .inl ⟨⟨rfl, .inl (hd 6 rfl)⟩, op_ldS rfl rfl (hd 7 rfl) ((HE.out.to hb).cell 0 2 rfl rfl)⟩
      | 9, _, _ => exact .inl ⟨⟨rfl, .inl (hd 6 rfl)⟩, op_len rfl rfl (hd 8 rfl)⟩
      | 10, _, _ => exact .inl ⟨⟨rfl, .inl (hd 6 rfl)⟩, ⟨_, op_faU0 rfl (hs 1 rfl), rfl⟩⟩
      | 11, _, _ => exact .inl ⟨⟨rfl, .inl (hd 6 rfl)⟩, op_ldI rfl rfl (hd 10 rfl) ((HE.out.to hb).cell 0 0 rfl rfl)⟩
      | 12, _, _ => exact .inl ⟨⟨rfl, .inl (hd 6 rfl)⟩, ⟨_, op_faU1 rfl (hs 1 rfl), rfl⟩⟩
      | 13, _, _ => exact .inl ⟨⟨rfl, .inl (hd 6 rfl)⟩, op_ldI rfl rfl (hd 12 rfl) ((HE.out.to hb).cell 0 1 rfl rfl)⟩
      | 14, _, _ => exact .inl ⟨⟨rfl, .inl (hd 6 rfl)⟩, ⟨_, op_mul (by unfold Fit; omega) rfl (hd 11 rfl) (hd 13 rfl), rfl⟩⟩
      | 15, _, _ => exact .inl ⟨⟨rfl, .inl (hd 6 rfl)⟩, pure_b (bool_eq K2.out) (⟨_, op_neqI rfl (hd 9 rfl) (hd 14 rfl), rfl⟩)⟩
      | 16, _, _ => exact .inl ⟨rfl, ⟨_, op_pickF rfl (hd 6 rfl) (hd 15 rfl), rfl⟩⟩
      | qi + 17, h, _ => omega
    intro vs X1 hb hv hal hne
    replace HB := Hd.mk (bel_then HB.out hb)
    replace HE := Hd.mk (HE.out.to hb)
    have e21 : vs 21 = .bool true := hv 16 (by decide) rfl
    simp only [PA, e21]
    clear hv hal hne hb e21
    go_wp2_with fail
    go_ret
    exact ⟨_, rfl, HB.out, rfl⟩
  have h1' : sizeB Wd Ht = false := by simpa using h1
  have K1 := Hd.mk h1'
  rw [show validB Wd Ht xs = false by unfold validB; rw [h1']; rfl]
  clear h1 h1'
  go_enter Try.func17, Try.ntmps17
  go_upto_region 1 with fail
  obtain ⟨W0, hW0⟩ : ∃ W : World, W = w.alloc (.cells #[.int .i64 Wd, .int .i64 Ht, .slice A xs.length k] 24) := ⟨_, rfl⟩
  rw [← hW0]
  obtain ⟨he, hb⟩ := env_one hW0
  have HE := Hd.mk he
  have HB := Hd.mk hb
  clear he hb hW0
  refine wp_region_vd 17 [5, 6, 7, 8, 9, 10, 11, 12, 13, 14, 15, 16, 17, 18, 19, 20, 21] [0, 2, 5, 6, 16] [] 84 [.int .i64 0, .int .i64 0] [isV (.pointer (some ⟨w.heap.size, 0, none⟩)), isV (.int .i64 Wd), isV (.pointer (some ⟨w.heap.size, 1, none⟩)), isV (.int .i64 Ht), isV (.bool false), isV (.bool true), isV (.bool true), isV undef, isV undef, isV undef, isV undef, isV undef, isV undef, isV undef, isV undef, isV undef, isV (.bool true)] (by rfl) alloc_Z ?_ ?_
  · intro qi qh qA aa wx hb hs hd
    match qi, qh, qA with
    | 0, _, _ => exact .inl ⟨rfl, ⟨_, op_faU0 rfl (hs 1 rfl), rfl⟩⟩
    | 1, _, _ => exact .inl ⟨rfl, op_ldI rfl rfl (hd 0 rfl) ((HE.out.to hb).cell 0 0 rfl rfl)⟩
    | 2, _, _ => exact .inl ⟨rfl, ⟨_, op_faU1 rfl (hs 1 rfl), rfl⟩⟩
    | 3, _, _ => exact .inl ⟨rfl, op_ldI rfl rfl (hd 2 rfl) ((HE.out.to hb).cell 0 1 rfl rfl)⟩
    | 4, _, _ => exact .inl ⟨rfl, wp_b (bool_eq K1.out) (op_call2 rfl rfl Try.call25 (by rw [(show aa.eval (.tmp 6) = .int .i64 Wd from (hd 1 rfl)), (show aa.eval (.tmp 8) = .int .i64 Ht from (hd 3 rfl))]; exact rSize_got Wd Ht _))⟩
    | 5, _, _ => exact .inl ⟨rfl, ⟨_, op_not rfl (hd 4 rfl), rfl⟩⟩
    | 6, _, _ => exact .inl ⟨rfl, op_mv rfl (hd 5 rfl)⟩
    | 7, _, _ => exact .inr ⟨⟨rfl, .inl (hd 6 rfl)⟩, rfl⟩
    | 8, _, _ => exact .inr ⟨⟨rfl, .inl (hd 6 rfl)⟩, rfl⟩
    | 9, _, _ => exact .inr ⟨⟨rfl, .inl (hd 6 rfl)⟩, rfl⟩
    | 10, _, _ => exact .inr ⟨⟨rfl, .inl (hd 6 rfl)⟩, rfl⟩
    | 11, _, _ => exact .inr ⟨⟨rfl, .inl (hd 6 rfl)⟩, rfl⟩
    | 12, _, _ => exact .inr ⟨⟨rfl, .inl (hd 6 rfl)⟩, rfl⟩
    | 13, _, _ => exact .inr ⟨⟨rfl, .inl (hd 6 rfl)⟩, rfl⟩
    | 14, _, _ => exact .inr ⟨⟨rfl, .inl (hd 6 rfl)⟩, rfl⟩
    | 15, _, _ => exact .inr ⟨⟨rfl, .inl (hd 6 rfl)⟩, rfl⟩
    | 16, _, _ => exact .inl ⟨rfl, ⟨_, op_pickT rfl (hd 6 rfl) rfl, rfl⟩⟩
    | qi + 17, h, _ => omega
  intro vs X1 hb hv hal hne
  replace HB := Hd.mk (bel_then HB.out hb)
  replace HE := Hd.mk (HE.out.to hb)
  have e21 : vs 21 = .bool true := hv 16 (by decide) rfl
  simp only [PA, e21]
  clear hv hal hne hb e21
  go_wp2_with fail
  go_ret
  exact ⟨_, rfl, HB.out, rfl⟩
set_option maxRecDepth 100000 in
set_option maxHeartbeats 1000000 in
theorem Apply_ad (Wd Ht x y t : Int) (f : Bool) (ad : Addr) (k : Nat) (xs : List Int) (w : World) (hri : RI w (some ad) xs) (hv : validB Wd Ht xs = true) (hm : alB Wd Ht x y t = true) :
    Calls Try.prog 13 #[.agg #[.int .i64 x, .int .i64 y, .int .i64 t, .bool f], .agg #[.int .i64 Wd, .int .i64 Ht, .slice (some ad) xs.length k]] w (Got w (isP (isFS w.heap.size Wd Ht (apL Wd Ht x y t f xs)) (isV (.int .i64 0))).p) := by
  have HRI := Hd.mk hri
  have HV := Hd.mk hv
  have HM := Hd.mk hm
  have HK := Hd.mk (okm (valid_size hv) hm)
  have HLN := Hd.mk (valid_len hv)
  clear hri hv hm
  go_enter Try.func13, Try.ntmps13
  go_upto_region 1 with fail
  obtain ⟨W0, hW0⟩ : ∃ W : World, W = ((w.alloc (.cells #[.int .i64 x, .int .i64 y, .int .i64 t, .bool f] 31)).alloc (.cells #[.int .i64 Wd, .int .i64 Ht, .slice (some ad) xs.length k] 27)).alloc (.cells #[.int .i64 0, .int .i64 0, .slice none 0 0] 27) := ⟨_, rfl⟩
  rw [← hW0]
  obtain ⟨he, hb⟩ := env_three hW0
  have HE := Hd.mk he
  have HB := Hd.mk hb
  clear he hb hW0
  refine wp_region_vg 10 [6, 7, 8, 9, 10, 11, 12, 13, 14, 15] [2, 3, 8, 9] [] 84 [.int .i64 0, .int .i64 0] [isV (.agg #[.int .i64 Wd, .int .i64 Ht, .slice (some ad) xs.length k]), isV (.bool true), isV (.bool false), isV (.bool false), isV (.agg #[.int .i64 Wd, .int .i64 Ht, .slice (some ad) xs.length k]), isV (.agg #[.int .i64 Wd, .int .i64 Ht]), isV (.agg #[.int .i64 x, .int .i64 y, .int .i64 t, .bool f]), isV (.bool true), isV (.bool false), isV (.bool false)] (by kernel_rfl) (by kernel_rfl) (by kernel_rfl) (by rfl) alloc_Z (fun d v c a w h => by cases d <;> exact h) ?_ ?_
  · intro qi qh qA aa wx hb hs hd
    match qi, qh, qA with
    | 0, _, _ => exact .inl ⟨rfl, op_ldT rfl rfl (hs 3 rfl) ((HE.out.to hb).get 1 rfl)⟩
    | 1, _, _ => exact .inl ⟨rfl, wp_b (bool_eq HV.out) (op_call1 rfl rfl Try.call16 (by rw [(show aa.eval (.tmp 6) = .agg #[.int .i64 Wd, .int .i64 Ht, .slice (some ad) xs.length k] from (hd 0 rfl))]; exact Valid_got Wd Ht (some ad) k xs _ (HRI.out.to (bel_then HB.out hb))))⟩
    | 2, _, _ => exact .inl ⟨rfl, ⟨_, op_not rfl (hd 1 rfl), rfl⟩⟩
    | 3, _, _ => exact .inl ⟨rfl, op_mv rfl (hd 2 rfl)⟩
    | 4, _, _ => exact .inl ⟨⟨rfl, .inl (hd 3 rfl)⟩, op_ldT rfl rfl (hs 3 rfl) ((HE.out.to hb).get 1 rfl)⟩
    | 5, _, _ => exact .inl ⟨⟨rfl, .inl (hd 3 rfl)⟩, op_call1 rfl rfl Try.call50 (by rw [(show aa.eval (.tmp 10) = .agg #[.int .i64 Wd, .int .i64 Ht, .slice (some ad) xs.length k] from (hd 4 rfl))]; exact size_got Wd Ht (some ad) xs.length k _)⟩
    | 6, _, _ => exact .inl ⟨⟨rfl, .inl (hd 3 rfl)⟩, op_ldM rfl rfl (hs 2 rfl) ((HE.out.to hb).get 0 rfl)⟩
    | 7, _, _ => exact .inl ⟨⟨rfl, .inl (hd 3 rfl)⟩, wp_b (bool_eq HM.out) (op_call2 rfl rfl Try.call51 (by rw [(show aa.eval (.tmp 11) = .agg #[.int .i64 Wd, .int .i64 Ht] from (hd 5 rfl)), (show aa.eval (.tmp 12) = .agg #[.int .i64 x, .int .i64 y, .int .i64 t, .bool f] from (hd 6 rfl))]; exact allows_got Wd Ht x y t f _))⟩
    | 8, _, _ => exact .inl ⟨⟨rfl, .inl (hd 3 rfl)⟩, ⟨_, op_not rfl (hd 7 rfl), rfl⟩⟩
    | 9, _, _ => exact .inl ⟨rfl, ⟨_, op_pickF rfl (hd 3 rfl) (hd 8 rfl), rfl⟩⟩
    | qi + 10, h, _ => omega
  intro vs X1 hb hv hal hne
  replace HB := Hd.mk (bel_then HB.out hb)
  replace HE := Hd.mk (HE.out.to hb)
  have e15 : vs 15 = .bool false := hv 9 (by decide) rfl
  simp only [PA, e15]
  clear hv hal hne hb e15
  go_upto_region 3 with fail
  have HWS := Hd.mk HB.out.size
  refine wp_region_vs 5 [17, 18, 19, 20, 21] [] [] 84 [.int .i64 0, .int .i64 0] [isV (.agg #[.int .i64 Wd, .int .i64 Ht, .slice (some ad) xs.length k]), isV (.agg #[.int .i64 Wd, .int .i64 Ht]), isV (.agg #[.int .i64 x, .int .i64 y, .int .i64 t, .bool f]), isV (.agg #[.int .i64 Wd, .int .i64 Ht, .slice (some ad) xs.length k]), isFS X1.heap.size Wd Ht (apL Wd Ht x y t f xs)] (by kernel_rfl) (by kernel_rfl) (by kernel_rfl) (by rfl) alloc_Z (fun d v c a w h => by cases d <;> exact h) ?_ ?_
  · intro qi qh qA aa wx hb hs hd
    match qi, qh, qA with
    | 0, _, _ => exact op_ldT rfl rfl (hs 3 rfl) ((HE.out.to hb).get 1 rfl)
    | 1, _, _ => exact op_call1 rfl rfl Try.call50 (by rw [(show aa.eval (.tmp 17) = .agg #[.int .i64 Wd, .int .i64 Ht, .slice (some ad) xs.length k] from (hd 0 rfl))]; exact size_got Wd Ht (some ad) xs.length k _)
    | 2, _, _ => exact op_ldM rfl rfl (hs 2 rfl) ((HE.out.to hb).get 0 rfl)
    | 3, _, _ => exact op_ldT rfl rfl (hs 3 rfl) ((HE.out.to hb).get 1 rfl)
    | 4, _, _ => exact op_call3 rfl rfl Try.call52 (by rw [(show aa.eval (.tmp 18) = .agg #[.int .i64 Wd, .int .i64 Ht] from (hd 1 rfl)), (show aa.eval (.tmp 19) = .agg #[.int .i64 x, .int .i64 y, .int .i64 t, .bool f] from (hd 2 rfl)), (show aa.eval (.tmp 20) = .agg #[.int .i64 Wd, .int .i64 Ht, .slice (some ad) xs.length k] from (hd 3 rfl))]; exact got_fs hb.size (apply_got Wd Ht x y t f ad k xs _ (HRI.out.to (bel_then HB.out hb)) HK.out HLN.out))
    | qi + 5, h, _ => omega
  intro vs X2 hb hv hal hne
  have HL0 := Hd.mk (HE.out.lt)
  have HBW := HB
  replace HB := Hd.mk (bel_then HB.out hb)
  replace HE := Hd.mk (HE.out.to hb)
  have t21 : (isFS X1.heap.size Wd Ht (apL Wd Ht x y t f xs)).p (vs 21) X2 := hv 4 (by decide) rfl
  obtain ⟨g21, k21, rest21, e21, l21, m21, n21, b21⟩ := t21
  replace HE : Hd (Env X2 [⟨w.heap.size, 31, [.int .i64 x, .int .i64 y, .int .i64 t, .bool f]⟩, ⟨w.heap.size + 1, 27, [.int .i64 Wd, .int .i64 Ht, .slice (some ad) xs.length k]⟩, ⟨w.heap.size + 1 + 1, 27, [.int .i64 0, .int .i64 0, .slice none 0 0]⟩, ⟨g21, 3, ints (apL Wd Ht x y t f xs) ++ rest21⟩]) := ⟨Env.addne (e := ⟨g21, 3, ints (apL Wd Ht x y t f xs) ++ rest21⟩) HE.out b21 (fun e' he => Nat.ne_of_lt (Nat.lt_of_lt_of_le (HL0.out e' he) l21))⟩
  have G21 : Hd (w.heap.size ≤ g21) := ⟨Nat.le_trans HBW.out.size l21⟩
  simp only [PA, e21]
  clear hv hal hne hb HL0 HBW e21 l21 b21
  refine wpList_st rfl rfl rfl rfl rfl (sto_T (HE.out.get 2 rfl)) ?_
  have HE' : Env (putL X2 (w.heap.size + 1 + 1) 0 [.int .i64 Wd, .int .i64 Ht, .slice (some ⟨g21, 0, none⟩) ((apL Wd Ht x y t f xs).length) k21]) [⟨w.heap.size, 31, [.int .i64 x, .int .i64 y, .int .i64 t, .bool f]⟩, ⟨w.heap.size + 1, 27, [.int .i64 Wd, .int .i64 Ht, .slice (some ad) xs.length k]⟩, ⟨w.heap.size + 1 + 1, 27, [.int .i64 Wd, .int .i64 Ht, .slice (some ⟨g21, 0, none⟩) ((apL Wd Ht x y t f xs).length) k21]⟩, ⟨g21, 3, ints (apL Wd Ht x y t f xs) ++ rest21⟩] := HE.out.putF 2 rfl rfl
  have HB' := putL_below (show w.heap.size ≤ w.heap.size + 1 + 1 from by omega) [.int .i64 Wd, .int .i64 Ht, .slice (some ⟨g21, 0, none⟩) ((apL Wd Ht x y t f xs).length) k21] _ 0 HB.out
  generalize putL X2 (w.heap.size + 1 + 1) 0 [.int .i64 Wd, .int .i64 Ht, .slice (some ⟨g21, 0, none⟩) ((apL Wd Ht x y t f xs).length) k21] = X3 at *
  replace HE := Hd.mk HE'
  replace HB := Hd.mk HB'
  clear HE' HB'
  go_wp2_with fail
  have k0a := HE.out.cell 2 0 rfl rfl
  have k0b := HE.out.cell 2 1 rfl rfl
  have k0c := HE.out.cell 2 2 rfl rfl
  refine bodyPost_ret (v := .tuple #[.agg #[.int .i64 Wd, .int .i64 Ht, .slice (some ⟨g21, 0, none⟩) ((apL Wd Ht x y t f xs).length) k21], .int .i64 0]) (by simp [results, Try.results13, go_sem, k0a, k0b, k0c]) rfl ?_
  exact ⟨_, rfl, HB.out, _, _, rfl, ⟨g21, k21, rest21, rfl, G21.out, m21, n21, HE.out.get 3 rfl⟩, rfl⟩
end Go.Proofs.Ytddbmckbankmeaa
