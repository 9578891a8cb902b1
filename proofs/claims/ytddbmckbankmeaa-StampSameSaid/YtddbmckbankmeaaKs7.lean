/- Part 7 of the texts behind this claim. -/
import Derived.Test.YtddbmckbankmeaaKs6
set_option linter.unusedVariables false
set_option linter.unusedSimpArgs false
namespace Go.Proofs.Ytddbmckbankmeaa
open Go.RowKit
theorem RI.cellq {w : World} {ad : Addr} {xs : List Int} {q : Nat} (h : RI w (some ad) xs) (hq : q < xs.length) : w.cell? (Addr.add ad ((q : Int)).toNat) = some (.int .i64 (xs.getD q 0)) := by
  obtain ⟨ad', e, hc⟩ := h.at_ hq
  injection e with e
  subst e
  rw [Int.toNat_natCast]
  exact hc
def apL (W H x y t : Int) (f : Bool) (xs : List Int) : List Int := apS (fun q => toC W H x y t f q) xs xs.length
set_option maxRecDepth 100000 in
set_option maxHeartbeats 1000000 in
theorem apply_got (Wd Ht x y t : Int) (f : Bool) (ad : Addr) (k : Nat) (xs : List Int) (w : World) (hri : RI w (some ad) xs) (hk : Okm Wd Ht x y t) (hl : (xs.length : Int) = Wd * Ht) :
    Calls Try.prog 52 #[.agg #[.int .i64 Wd, .int .i64 Ht], .agg #[.int .i64 x, .int .i64 y, .int .i64 t, .bool f], .agg #[.int .i64 Wd, .int .i64 Ht, .slice (some ad) xs.length k]] w (Got w (isFS w.heap.size Wd Ht (apL Wd Ht x y t f xs)).p) := by
  have HRI := Hd.mk hri
  have HK := Hd.mk hk
  have hwb := hk.w
  have hhb := hk.h
  have m1 := mul_small (a := Wd) (b := Ht) (by omega) (by omega)
  clear hri hk
  go_enter Try.func52, Try.ntmps52
  go_upto_region 1 with fail
  obtain ⟨W0, hW0⟩ : ∃ W : World, W = (((w.alloc (.cells #[.int .i64 Wd, .int .i64 Ht] 84)).alloc (.cells #[.int .i64 x, .int .i64 y, .int .i64 t, .bool f] 31)).alloc (.cells #[.int .i64 Wd, .int .i64 Ht, .slice (some ad) xs.length k] 27)).alloc (.cells #[.int .i64 0, .int .i64 0, .slice none 0 0] 27) := ⟨_, rfl⟩
  rw [← hW0]
  obtain ⟨he, hb⟩ := env_four hW0
  have HE := Hd.mk he
  have HB := Hd.mk hb
  clear he hb hW0
  refine wp_region_vs 10 [10, 11, 12, 13, 14, 15, 16, 17, 18, 7] [0, 2, 4, 8] [9] 27 [.int .i64 0, .int .i64 0, .slice none 0 0] [isV (.pointer (some ⟨w.heap.size + 1 + 1, 0, none⟩)), isV (.int .i64 Wd), isV (.pointer (some ⟨w.heap.size + 1 + 1, 1, none⟩)), isV (.int .i64 Ht), isV (.pointer (some ⟨w.heap.size + 1 + 1, 2, none⟩)), isV (.slice (some ad) xs.length k), isV (.int .i64 (((xs.length : Nat) : Int))), isF W0.heap.size (List.replicate xs.length (0 : Int)), isFS W0.heap.size Wd Ht (List.replicate xs.length (0 : Int)), SP.any] (by kernel_rfl) (by kernel_rfl) (by kernel_rfl) (by rfl) alloc_T (fun d v c a w h => by cases d <;> exact h) ?_ ?_
  · intro qi qh qA aa wx hb hs hd
    match qi, qh, qA with
    | 0, _, _ => exact ⟨_, op_faT0 rfl (hs 5 rfl), rfl⟩
    | 1, _, _ => exact op_ldI rfl rfl (hd 0 rfl) ((HE.out.to hb).cell 2 0 rfl rfl)
    | 2, _, _ => exact ⟨_, op_faT1 rfl (hs 5 rfl), rfl⟩
    | 3, _, _ => exact op_ldI rfl rfl (hd 2 rfl) ((HE.out.to hb).cell 2 1 rfl rfl)
    | 4, _, _ => exact ⟨_, op_faT2 rfl (hs 5 rfl), rfl⟩
    | 5, _, _ => exact op_ldS rfl rfl (hd 4 rfl) ((HE.out.to hb).cell 2 2 rfl rfl)
    | 6, _, _ => exact op_len rfl rfl (hd 5 rfl)
    | 7, _, _ => exact op_make (by omega) rfl rfl (hd 6 rfl) (hd 6 rfl) W0.heap.size hb.size
    | 8, _, _ => exact op_buTF rfl (hd 1 rfl) (hd 3 rfl) (hd 7 rfl)
    | 9, _, h => cases h
    | qi + 10, h, _ => omega
  · intro vs X1 hb hv hal hne
    have HL0 := Hd.mk (HE.out.lt)
    have HBW := HB
    replace HB := Hd.mk (bel_then HB.out hb)
    replace HE : Hd (Env X1 [⟨w.heap.size, 84, [.int .i64 Wd, .int .i64 Ht]⟩, ⟨w.heap.size + 1, 31, [.int .i64 x, .int .i64 y, .int .i64 t, .bool f]⟩, ⟨w.heap.size + 1 + 1, 27, [.int .i64 Wd, .int .i64 Ht, .slice (some ad) xs.length k]⟩, ⟨w.heap.size + 1 + 1 + 1, 27, [.int .i64 0, .int .i64 0, .slice none 0 0]⟩]) := ⟨HE.out.to hb⟩
    have HLS := HL0
    have t18 : (isFS W0.heap.size Wd Ht (List.replicate xs.length (0 : Int))).p (vs 18) X1 := hv 8 (by decide) rfl
    obtain ⟨g18, k18, rest18, e18, l18, m18, n18, b18⟩ := t18
    replace HE : Hd (Env X1 [⟨w.heap.size, 84, [.int .i64 Wd, .int .i64 Ht]⟩, ⟨w.heap.size + 1, 31, [.int .i64 x, .int .i64 y, .int .i64 t, .bool f]⟩, ⟨w.heap.size + 1 + 1, 27, [.int .i64 Wd, .int .i64 Ht, .slice (some ad) xs.length k]⟩, ⟨w.heap.size + 1 + 1 + 1, 27, [.int .i64 0, .int .i64 0, .slice none 0 0]⟩, ⟨g18, 3, ints (List.replicate xs.length (0 : Int)) ++ rest18⟩]) := ⟨Env.addne (e := ⟨g18, 3, ints (List.replicate xs.length (0 : Int)) ++ rest18⟩) HE.out b18 (fun e' he => Nat.ne_of_lt (Nat.lt_of_lt_of_le (HL0.out e' he) l18))⟩
    have G18 : Hd (w.heap.size ≤ g18) := ⟨Nat.le_trans HBW.out.size l18⟩
    obtain ⟨g7, e7, l7, b7⟩ : ∃ g, vs 7 = .pointer (some ⟨g, 0, none⟩) ∧ _ := hal 9 rfl
    replace HE : Hd (Env X1 [⟨w.heap.size, 84, [.int .i64 Wd, .int .i64 Ht]⟩, ⟨w.heap.size + 1, 31, [.int .i64 x, .int .i64 y, .int .i64 t, .bool f]⟩, ⟨w.heap.size + 1 + 1, 27, [.int .i64 Wd, .int .i64 Ht, .slice (some ad) xs.length k]⟩, ⟨w.heap.size + 1 + 1 + 1, 27, [.int .i64 0, .int .i64 0, .slice none 0 0]⟩, ⟨g18, 3, ints (List.replicate xs.length (0 : Int)) ++ rest18⟩, ⟨g7, 27, [.int .i64 0, .int .i64 0, .slice none 0 0]⟩]) := ⟨Env.addne (e := ⟨g7, 27, [.int .i64 0, .int .i64 0, .slice none 0 0]⟩) HE.out b7 (fun e' he => (List.mem_append.1 (show e' ∈ _ ++ [_] from he)).elim (fun he => Nat.ne_of_lt (Nat.lt_of_lt_of_le (HL0.out e' he) l7)) (fun he => by rw [List.mem_singleton.1 he]; exact blk_ne b18 b7 (by decide)))⟩
    have G7 : Hd (w.heap.size ≤ g7) := ⟨Nat.le_trans HBW.out.size l7⟩
    simp only [putAll, List.foldl_cons, List.foldl_nil, Act.put, List.setIfInBounds_toArray, List.set_cons_succ, List.set_cons_zero, List.drop_succ_cons, List.drop_zero, e18, e7]
    generalize vs 10 = s10
    generalize vs 11 = s11
    generalize vs 12 = s12
    generalize vs 13 = s13
    generalize vs 14 = s14
    generalize vs 15 = s15
    generalize vs 16 = s16
    generalize vs 17 = s17
    clear hv hal hne hb HL0 HBW HLS e18 e7 l18 b18 l7 b7
    refine wpList_st rfl rfl rfl rfl rfl (sto_T (HE.out.get 5 rfl)) ?_
    have HE' : Env (putL X1 g7 0 [.int .i64 Wd, .int .i64 Ht, .slice (some ⟨g18, 0, none⟩) ((List.replicate xs.length (0 : Int)).length) k18]) [⟨w.heap.size, 84, [.int .i64 Wd, .int .i64 Ht]⟩, ⟨w.heap.size + 1, 31, [.int .i64 x, .int .i64 y, .int .i64 t, .bool f]⟩, ⟨w.heap.size + 1 + 1, 27, [.int .i64 Wd, .int .i64 Ht, .slice (some ad) xs.length k]⟩, ⟨w.heap.size + 1 + 1 + 1, 27, [.int .i64 0, .int .i64 0, .slice none 0 0]⟩, ⟨g18, 3, ints (List.replicate xs.length (0 : Int)) ++ rest18⟩, ⟨g7, 27, [.int .i64 Wd, .int .i64 Ht, .slice (some ⟨g18, 0, none⟩) ((List.replicate xs.length (0 : Int)).length) k18]⟩] := HE.out.putF 5 rfl rfl
    have HB' := putL_below (show w.heap.size ≤ g7 from G7.out) [.int .i64 Wd, .int .i64 Ht, .slice (some ⟨g18, 0, none⟩) ((List.replicate xs.length (0 : Int)).length) k18] _ 0 HB.out
    generalize putL X1 g7 0 [.int .i64 Wd, .int .i64 Ht, .slice (some ⟨g18, 0, none⟩) ((List.replicate xs.length (0 : Int)).length) k18] = X2 at *
    replace HE := Hd.mk HE'
    replace HB := Hd.mk HB'
    clear HE' HB'
    go_upto_region 2 with fail
    refine wp_region_vd 4 [19, 20, 21, 22] [0, 3] [] 84 [.int .i64 0, .int .i64 0] [isV (.pointer (some ⟨w.heap.size + 1 + 1, 2, none⟩)), isV (.slice (some ad) xs.length k), isV (.int .i64 (((xs.length : Nat) : Int))), isV (.int .i64 0)] (by rfl) alloc_Z ?_ ?_
    · intro qi qh qA aa wx hb hs hd
      match qi, qh, qA with
      | 0, _, _ => exact .inl ⟨rfl, ⟨_, op_faT2 rfl (hs 5 rfl), rfl⟩⟩
      | 1, _, _ => exact .inl ⟨rfl, op_ldS rfl rfl (hd 0 rfl) ((HE.out.to hb).cell 2 2 rfl rfl)⟩
      | 2, _, _ => exact .inl ⟨rfl, op_len rfl rfl (hd 1 rfl)⟩
      | 3, _, _ => exact .inl ⟨rfl, op_mv rfl rfl⟩
      | qi + 4, h, _ => omega
    · intro vs X3 hb hv hal hne
      have HL0 := Hd.mk (HE.out.lt)
      have HBW := HB
      replace HB := Hd.mk (bel_then HB.out hb)
      replace HE : Hd (Env X3 [⟨w.heap.size, 84, [.int .i64 Wd, .int .i64 Ht]⟩, ⟨w.heap.size + 1, 31, [.int .i64 x, .int .i64 y, .int .i64 t, .bool f]⟩, ⟨w.heap.size + 1 + 1, 27, [.int .i64 Wd, .int .i64 Ht, .slice (some ad) xs.length k]⟩, ⟨w.heap.size + 1 + 1 + 1, 27, [.int .i64 0, .int .i64 0, .slice none 0 0]⟩, ⟨g18, 3, ints (List.replicate xs.length (0 : Int)) ++ rest18⟩, ⟨g7, 27, [.int .i64 Wd, .int .i64 Ht, .slice (some ⟨g18, 0, none⟩) ((List.replicate xs.length (0 : Int)).length) k18]⟩]) := ⟨HE.out.to hb⟩
      have HLS := HL0
      have e20 : vs 20 = .slice (some ad) xs.length k := hv 1 (by decide) rfl
      have e21 : vs 21 = .int .i64 (((xs.length : Nat) : Int)) := hv 2 (by decide) rfl
      have e22 : vs 22 = .int .i64 0 := hv 3 (by decide) rfl
      simp only [putAll, List.foldl_cons, List.foldl_nil, Act.put, List.setIfInBounds_toArray, List.set_cons_succ, List.set_cons_zero, List.drop_succ_cons, List.drop_zero, e20, e21, e22]
      generalize vs 19 = s19
      clear hv hal hne hb HL0 HBW HLS e20 e21 e22
      go_wp2_with fail
      go_loopw [8, 9, 22] (fun si sc sq wr => ∃ q : Nat, q ≤ xs.length ∧ sq = .int .i64 q ∧ Env wr [⟨w.heap.size, 84, [.int .i64 Wd, .int .i64 Ht]⟩, ⟨w.heap.size + 1, 31, [.int .i64 x, .int .i64 y, .int .i64 t, .bool f]⟩, ⟨w.heap.size + 1 + 1, 27, [.int .i64 Wd, .int .i64 Ht, .slice (some ad) xs.length k]⟩, ⟨w.heap.size + 1 + 1 + 1, 27, [.int .i64 0, .int .i64 0, .slice none 0 0]⟩, ⟨g18, 3, ints (apS (fun q => toC Wd Ht x y t f q) xs q) ++ rest18⟩, ⟨g7, 27, [.int .i64 Wd, .int .i64 Ht, .slice (some ⟨g18, 0, none⟩) ((List.replicate xs.length (0 : Int)).length) k18]⟩] ∧ Below w.heap.size w wr) (fun _ _ sq _ => xs.length - (intOf sq).toNat)
      case atStart => exact ⟨0, Nat.zero_le _, rfl, HE.out, HB.out⟩
      case round =>
        obtain ⟨q, hq, rfl, he, hb⟩ := hrel
        clear HB HE
        have HB := Hd.mk hb
        have HE : Hd (Env wr [⟨w.heap.size, 84, [.int .i64 Wd, .int .i64 Ht]⟩, ⟨w.heap.size + 1, 31, [.int .i64 x, .int .i64 y, .int .i64 t, .bool f]⟩, ⟨w.heap.size + 1 + 1, 27, [.int .i64 Wd, .int .i64 Ht, .slice (some ad) xs.length k]⟩, ⟨w.heap.size + 1 + 1 + 1, 27, [.int .i64 0, .int .i64 0, .slice none 0 0]⟩, ⟨g18, 3, ints (apS (fun q => toC Wd Ht x y t f q) xs q) ++ rest18⟩, ⟨g7, 27, [.int .i64 Wd, .int .i64 Ht, .slice (some ⟨g18, 0, none⟩) ((List.replicate xs.length (0 : Int)).length) k18]⟩]) := ⟨he⟩
        clear he hb
        have htl := toC_lt (i := (q : Int)) f HK.out
        by_cases hlt : q < xs.length
        · go_upto_region 4 with fail
          refine wp_region_vd 3 [24, 25, 26] [0] [] 84 [.int .i64 0, .int .i64 0] [isV (.int .i64 (((q : Nat) : Int))), isV (.pointer (some (Addr.add ad (((q : Nat) : Int)).toNat))), isV (.int .i64 (xs.getD q 0))] (by rfl) alloc_Z ?_ ?_
          · intro qi qh qA aa wx hb hs hd
            match qi, qh, qA with
            | 0, _, _ => exact .inl ⟨rfl, op_mv rfl (hs 22 rfl)⟩
            | 1, _, _ => exact .inl ⟨rfl, op_run rfl (op_idx (by omega) (by omega) rfl (hs 20 rfl) (hs 22 rfl) _) rfl⟩
            | 2, _, _ => exact .inl ⟨rfl, op_ldAt rfl rfl (hd 1 rfl) ((HRI.out.to (bel_then HB.out hb)).cellq hlt)⟩
            | qi + 3, h, _ => omega
          · intro vs X4 hb hv hal hne
            have HL0 := Hd.mk (HE.out.lt)
            have HBW := HB
            replace HB := Hd.mk (bel_then HB.out hb)
            replace HE : Hd (Env X4 [⟨w.heap.size, 84, [.int .i64 Wd, .int .i64 Ht]⟩, ⟨w.heap.size + 1, 31, [.int .i64 x, .int .i64 y, .int .i64 t, .bool f]⟩, ⟨w.heap.size + 1 + 1, 27, [.int .i64 Wd, .int .i64 Ht, .slice (some ad) xs.length k]⟩, ⟨w.heap.size + 1 + 1 + 1, 27, [.int .i64 0, .int .i64 0, .slice none 0 0]⟩, ⟨g18, 3, ints (apS (fun q => toC Wd Ht x y t f q) xs q) ++ rest18⟩, ⟨g7, 27, [.int .i64 Wd, .int .i64 Ht, .slice (some ⟨g18, 0, none⟩) ((List.replicate xs.length (0 : Int)).length) k18]⟩]) := ⟨HE.out.to hb⟩
            have HLS := HL0
            have e24 : vs 24 = .int .i64 (((q : Nat) : Int)) := hv 0 (by decide) rfl
            have e26 : vs 26 = .int .i64 (xs.getD q 0) := hv 2 (by decide) rfl
            simp only [putAll, List.foldl_cons, List.foldl_nil, Act.put, List.setIfInBounds_toArray, List.set_cons_succ, List.set_cons_zero, List.drop_succ_cons, List.drop_zero, e24, e26]
            generalize vs 25 = s25
            clear hv hal hne hb HL0 HBW HLS e24 e26
            go_upto_region 5 with fail
            refine wp_region_vs 8 [27, 28, 29, 30, 31, 32, 33, 34] [0, 4, 6] [] 84 [.int .i64 0, .int .i64 0] [isV (.pointer (some ⟨g7, 2, none⟩)), isV (.slice (some ⟨g18, 0, none⟩) ((List.replicate xs.length (0 : Int)).length) k18), isV (.agg #[.int .i64 Wd, .int .i64 Ht]), isV (.agg #[.int .i64 x, .int .i64 y, .int .i64 t, .bool f]), isV (.int .i64 (((q : Nat) : Int))), isV (.int .i64 (toC Wd Ht x y t f (((q : Nat) : Int)))), isV (.int .i64 (xs.getD q 0)), isV (.pointer (some (Addr.add (⟨g18, 0, none⟩) (toC Wd Ht x y t f (((q : Nat) : Int))).toNat)))] (by kernel_rfl) (by kernel_rfl) (by kernel_rfl) (by rfl) alloc_Z (fun d v c a w h => by cases d <;> exact h) ?_ ?_
            · intro qi qh qA aa wx hb hs hd
              match qi, qh, qA with
              | 0, _, _ => exact ⟨_, op_faT2 rfl (hs 7 rfl), rfl⟩
              | 1, _, _ => exact op_ldS rfl rfl (hd 0 rfl) ((HE.out.to hb).cell 5 2 rfl rfl)
              | 2, _, _ => exact op_ldZ rfl rfl (hs 3 rfl) ((HE.out.to hb).get 0 rfl)
              | 3, _, _ => exact op_ldM rfl rfl (hs 4 rfl) ((HE.out.to hb).get 1 rfl)
              | 4, _, _ => exact op_mv rfl (hs 8 rfl)
              | 5, _, _ => exact op_call3 rfl rfl Try.call64 (by rw [(show aa.eval (.tmp 29) = .agg #[.int .i64 Wd, .int .i64 Ht] from (hd 2 rfl)), (show aa.eval (.tmp 30) = .agg #[.int .i64 x, .int .i64 y, .int .i64 t, .bool f] from (hd 3 rfl)), (show aa.eval (.tmp 31) = .int .i64 (((q : Nat) : Int)) from (hd 4 rfl))]; exact to_got Wd Ht x y t (((q : Nat) : Int)) f HK.out (by omega) _)
              | 6, _, _ => exact op_mv rfl (hs 9 rfl)
              | 7, _, _ => exact op_run rfl (op_idx (by omega) (by rw [List.length_replicate]; omega) rfl (hd 1 rfl) (hd 5 rfl) _) rfl
              | qi + 8, h, _ => omega
            · intro vs X5 hb hv hal hne
              have HL0 := Hd.mk (HE.out.lt)
              have HBW := HB
              replace HB := Hd.mk (bel_then HB.out hb)
              replace HE : Hd (Env X5 [⟨w.heap.size, 84, [.int .i64 Wd, .int .i64 Ht]⟩, ⟨w.heap.size + 1, 31, [.int .i64 x, .int .i64 y, .int .i64 t, .bool f]⟩, ⟨w.heap.size + 1 + 1, 27, [.int .i64 Wd, .int .i64 Ht, .slice (some ad) xs.length k]⟩, ⟨w.heap.size + 1 + 1 + 1, 27, [.int .i64 0, .int .i64 0, .slice none 0 0]⟩, ⟨g18, 3, ints (apS (fun q => toC Wd Ht x y t f q) xs q) ++ rest18⟩, ⟨g7, 27, [.int .i64 Wd, .int .i64 Ht, .slice (some ⟨g18, 0, none⟩) ((List.replicate xs.length (0 : Int)).length) k18]⟩]) := ⟨HE.out.to hb⟩
              have HLS := HL0
              have e34 : vs 34 = .pointer (some (Addr.add (⟨g18, 0, none⟩) (toC Wd Ht x y t f (((q : Nat) : Int))).toNat)) := hv 7 (by decide) rfl
              have e33 : vs 33 = .int .i64 (xs.getD q 0) := hv 6 (by decide) rfl
              simp only [putAll, List.foldl_cons, List.foldl_nil, Act.put, List.setIfInBounds_toArray, List.set_cons_succ, List.set_cons_zero, List.drop_succ_cons, List.drop_zero, e34, e33]
              generalize vs 27 = s27
              generalize vs 28 = s28
              generalize vs 29 = s29
              generalize vs 30 = s30
              generalize vs 31 = s31
              generalize vs 32 = s32
              clear hv hal hne hb HL0 HBW HLS e34 e33
              refine wpList_st rfl rfl rfl rfl rfl (sto_at (HE.out.get 4 rfl) (by rw [apS_length]; omega)) ?_
              have HE' : Env (putL X5 g18 (toC Wd Ht x y t f (((q : Nat) : Int))).toNat [.int .i64 (xs.getD q 0)]) [⟨w.heap.size, 84, [.int .i64 Wd, .int .i64 Ht]⟩, ⟨w.heap.size + 1, 31, [.int .i64 x, .int .i64 y, .int .i64 t, .bool f]⟩, ⟨w.heap.size + 1 + 1, 27, [.int .i64 Wd, .int .i64 Ht, .slice (some ad) xs.length k]⟩, ⟨w.heap.size + 1 + 1 + 1, 27, [.int .i64 0, .int .i64 0, .slice none 0 0]⟩, ⟨g18, 3, ints (((apS (fun q => toC Wd Ht x y t f q) xs q)).set (toC Wd Ht x y t f (((q : Nat) : Int))).toNat (xs.getD q 0)) ++ rest18⟩, ⟨g7, 27, [.int .i64 Wd, .int .i64 Ht, .slice (some ⟨g18, 0, none⟩) ((List.replicate xs.length (0 : Int)).length) k18]⟩] := HE.out.putI 4 rfl (by rw [apS_length]; omega)
              have HB' := putL_below (show w.heap.size ≤ g18 from G18.out) [.int .i64 (xs.getD q 0)] _ (toC Wd Ht x y t f (((q : Nat) : Int))).toNat HB.out
              generalize putL X5 g18 (toC Wd Ht x y t f (((q : Nat) : Int))).toNat [.int .i64 (xs.getD q 0)] = X6 at *
              replace HE := Hd.mk HE'
              replace HB := Hd.mk HB'
              clear HE' HB'
              go_wp2_with fail
              go_roundw
              case rel => exact ⟨q + 1, by omega, by go_num, HE.out, HB.out⟩
              case measure => simp [intOf]; omega
        · have hqe : q = xs.length := by omega
          subst hqe
          go_upto_region 7 with fail
          refine wp_region_vd 1 [36] [] [] 84 [.int .i64 0, .int .i64 0] [isV (.agg #[.int .i64 Wd, .int .i64 Ht, .slice (some ⟨g18, 0, none⟩) ((List.replicate xs.length (0 : Int)).length) k18])] (by rfl) alloc_Z ?_ ?_
          · intro qi qh qA aa wx hb hs hd
            match qi, qh, qA with
            | 0, _, _ => exact .inl ⟨rfl, op_ldT rfl rfl (hs 7 rfl) ((HE.out.to hb).get 5 rfl)⟩
            | qi + 1, h, _ => omega
          · intro vs X4 hb hv hal hne
            have HL0 := Hd.mk (HE.out.lt)
            have HBW := HB
            replace HB := Hd.mk (bel_then HB.out hb)
            replace HE : Hd (Env X4 [⟨w.heap.size, 84, [.int .i64 Wd, .int .i64 Ht]⟩, ⟨w.heap.size + 1, 31, [.int .i64 x, .int .i64 y, .int .i64 t, .bool f]⟩, ⟨w.heap.size + 1 + 1, 27, [.int .i64 Wd, .int .i64 Ht, .slice (some ad) xs.length k]⟩, ⟨w.heap.size + 1 + 1 + 1, 27, [.int .i64 0, .int .i64 0, .slice none 0 0]⟩, ⟨g18, 3, ints (apS (fun q => toC Wd Ht x y t f q) xs xs.length) ++ rest18⟩, ⟨g7, 27, [.int .i64 Wd, .int .i64 Ht, .slice (some ⟨g18, 0, none⟩) ((List.replicate xs.length (0 : Int)).length) k18]⟩]) := ⟨HE.out.to hb⟩
            have HLS := HL0
            have e36 : vs 36 = .agg #[.int .i64 Wd, .int .i64 Ht, .slice (some ⟨g18, 0, none⟩) ((List.replicate xs.length (0 : Int)).length) k18] := hv 0 (by decide) rfl
            simp only [putAll, List.foldl_cons, List.foldl_nil, Act.put, List.setIfInBounds_toArray, List.set_cons_succ, List.set_cons_zero, List.drop_succ_cons, List.drop_zero, e36]
            clear hv hal hne hb HL0 HBW HLS e36
            refine wpList_st rfl rfl rfl rfl rfl (sto_T (HE.out.get 3 rfl)) ?_
            have HE' : Env (putL X4 (w.heap.size + 1 + 1 + 1) 0 [.int .i64 Wd, .int .i64 Ht, .slice (some ⟨g18, 0, none⟩) ((List.replicate xs.length (0 : Int)).length) k18]) [⟨w.heap.size, 84, [.int .i64 Wd, .int .i64 Ht]⟩, ⟨w.heap.size + 1, 31, [.int .i64 x, .int .i64 y, .int .i64 t, .bool f]⟩, ⟨w.heap.size + 1 + 1, 27, [.int .i64 Wd, .int .i64 Ht, .slice (some ad) xs.length k]⟩, ⟨w.heap.size + 1 + 1 + 1, 27, [.int .i64 Wd, .int .i64 Ht, .slice (some ⟨g18, 0, none⟩) ((List.replicate xs.length (0 : Int)).length) k18]⟩, ⟨g18, 3, ints (apS (fun q => toC Wd Ht x y t f q) xs xs.length) ++ rest18⟩, ⟨g7, 27, [.int .i64 Wd, .int .i64 Ht, .slice (some ⟨g18, 0, none⟩) ((List.replicate xs.length (0 : Int)).length) k18]⟩] := HE.out.putF 3 rfl rfl
            have HB' := putL_below (show w.heap.size ≤ w.heap.size + 1 + 1 + 1 from by omega) [.int .i64 Wd, .int .i64 Ht, .slice (some ⟨g18, 0, none⟩) ((List.replicate xs.length (0 : Int)).length) k18] _ 0 HB.out
            generalize putL X4 (w.heap.size + 1 + 1 + 1) 0 [.int .i64 Wd, .int .i64 Ht, .slice (some ⟨g18, 0, none⟩) ((List.replicate xs.length (0 : Int)).length) k18] = X5 at *
            replace HE := Hd.mk HE'
            replace HB := Hd.mk HB'
            clear HE' HB'
            go_wp2_with fail
            have k0a := HE.out.cell 3 0 rfl rfl
            have k0b := HE.out.cell 3 1 rfl rfl
            have k0c := HE.out.cell 3 2 rfl rfl
            refine bodyPost_ret (v := .agg #[.int .i64 Wd, .int .i64 Ht, .slice (some ⟨g18, 0, none⟩) ((List.replicate xs.length (0 : Int)).length) k18]) (by simp [results, Try.results52, go_sem, k0a, k0b, k0c]) rfl ?_
            exact ⟨_, rfl, HB.out, g18, k18, rest18, by rw [apL, apS_length, List.length_replicate], G18.out, by rw [apL, apS_length]; rw [List.length_replicate] at m18; exact m18, n18, HE.out.get 4 rfl⟩
end Go.Proofs.Ytddbmckbankmeaa
