/- The law StampGroups where something is not valid. -/
import Derived.Test.YtddbmckbankmeaaTa
set_option linter.unusedVariables false
set_option linter.unusedSimpArgs false
namespace Go.Proofs.Ytddbmckbankmeaa
open Go.RowKit

set_option maxRecDepth 100000 in
set_option maxHeartbeats 1000000 in
theorem Groups_v (Wd Ht : Int) (a b c : Mv) (A : Option Addr) (k : Nat) (xs : List Int) (w : World) (hri : RI w A xs) (hlk : xs.length ≤ k) (hA : A = none → k = 0) (hv : validB Wd Ht xs = false) :
    Calls Try.prog 5 #[.agg #[.int .i64 Wd, .int .i64 Ht, .slice A xs.length k], .agg #[.int .i64 a.x, .int .i64 a.y, .int .i64 a.t, .bool a.f], .agg #[.int .i64 b.x, .int .i64 b.y, .int .i64 b.t, .bool b.f], .agg #[.int .i64 c.x, .int .i64 c.y, .int .i64 c.t, .bool c.f]] w (Got w (isV (.bool true)).p) := by
  have HRI := Hd.mk hri
  clear hri
  have HSTY := Hd.mk (fun W (h : RI W A xs) => stamps_got Wd Ht A k xs W h hlk hA)
  have HN : Hd ((validB Wd Ht (xs.take 70) && alB Wd Ht a.x a.y a.t) = false) := ⟨by rw [valid_take, hv]; rfl⟩
  have HV := Hd.mk hv
  clear hv
  go_enter Try.func5, Try.ntmps5
  go_upto_region 1 with fail
  obtain ⟨W0, hW0⟩ : ∃ W : World, W = (((w.alloc (.cells #[.int .i64 Wd, .int .i64 Ht, .slice A xs.length k] 24)).alloc (.cells #[.int .i64 a.x, .int .i64 a.y, .int .i64 a.t, .bool a.f] 26)).alloc (.cells #[.int .i64 b.x, .int .i64 b.y, .int .i64 b.t, .bool b.f] 26)).alloc (.cells #[.int .i64 c.x, .int .i64 c.y, .int .i64 c.t, .bool c.f] 26) := ⟨_, rfl⟩
  rw [← hW0]
  obtain ⟨he, hb⟩ := env_four hW0
  have HE := Hd.mk he
  have HB := Hd.mk hb
  clear he hb hW0
  refine wp_region_vd 30 [33, 34, 35, 36, 37, 38, 39, 40, 41, 42, 43, 44, 45, 46, 47, 48, 49, 50, 51, 52, 53, 54, 55, 56, 57, 58, 59, 60, 61, 62] [2, 3, 11, 12, 20, 21, 29] [] 84 [.int .i64 0, .int .i64 0] [isV (.agg #[.int .i64 Wd, .int .i64 Ht, .slice A xs.length k]), isV (.bool false), isV (.bool true), isV (.bool true), isV undef, isV undef, isV undef, isV undef, isV undef, isV undef, isV undef, isV (.bool true), isV (.bool true), isV undef, isV undef, isV undef, isV undef, isV undef, isV undef, isV undef, isV (.bool true), isV (.bool true), isV undef, isV undef, isV undef, isV undef, isV undef, isV undef, isV undef, isV (.bool true)] (by rfl) alloc_Z ?_ ?_
  · intro qi qh qA aa wx hb hs hd
    match qi, qh, qA with
    | 0, _, _ => exact .inl ⟨rfl, op_ldU rfl rfl (hs 4 rfl) ((HE.out.to hb).get 0 rfl)⟩
    | 1, _, _ => exact .inl ⟨rfl, wp_b (bool_eq HV.out) (op_call1 rfl rfl Try.call17 (rValid_rd Wd Ht xs _ _ (rd_ex (xs := xs) (hd 0 rfl) (HRI.out.to (bel_then HB.out hb)))))⟩
    | 2, _, _ => exact .inl ⟨rfl, ⟨_, op_not rfl (hd 1 rfl), rfl⟩⟩
    | 3, _, _ => exact .inl ⟨rfl, op_mv rfl (hd 2 rfl)⟩
    | 4, _, _ => exact .inr ⟨⟨rfl, .inl (hd 3 rfl)⟩, rfl⟩
    | 5, _, _ => exact .inr ⟨⟨rfl, .inl (hd 3 rfl)⟩, rfl⟩
    | 6, _, _ => exact .inr ⟨⟨rfl, .inl (hd 3 rfl)⟩, rfl⟩
    | 7, _, _ => exact .inr ⟨⟨rfl, .inl (hd 3 rfl)⟩, rfl⟩
    | 8, _, _ => exact .inr ⟨⟨rfl, .inl (hd 3 rfl)⟩, rfl⟩
    | 9, _, _ => exact .inr ⟨⟨rfl, .inl (hd 3 rfl)⟩, rfl⟩
    | 10, _, _ => exact .inr ⟨⟨rfl, .inl (hd 3 rfl)⟩, rfl⟩
    | 11, _, _ => exact .inl ⟨rfl, ⟨_, op_pickT rfl (hd 3 rfl) rfl, rfl⟩⟩
    | 12, _, _ => exact .inl ⟨rfl, op_mv rfl (hd 11 rfl)⟩
    | 13, _, _ => exact .inr ⟨⟨rfl, .inl (hd 12 rfl)⟩, rfl⟩
    | 14, _, _ => exact .inr ⟨⟨rfl, .inl (hd 12 rfl)⟩, rfl⟩
    | 15, _, _ => exact .inr ⟨⟨rfl, .inl (hd 12 rfl)⟩, rfl⟩
    | 16, _, _ => exact .inr ⟨⟨rfl, .inl (hd 12 rfl)⟩, rfl⟩
    | 17, _, _ => exact .inr ⟨⟨rfl, .inl (hd 12 rfl)⟩, rfl⟩
    | 18, _, _ => exact .inr ⟨⟨rfl, .inl (hd 12 rfl)⟩, rfl⟩
    | 19, _, _ => exact .inr ⟨⟨rfl, .inl (hd 12 rfl)⟩, rfl⟩
    | 20, _, _ => exact .inl ⟨rfl, ⟨_, op_pickT rfl (hd 12 rfl) rfl, rfl⟩⟩
    | 21, _, _ => exact .inl ⟨rfl, op_mv rfl (hd 20 rfl)⟩
    | 22, _, _ => exact .inr ⟨⟨rfl, .inl (hd 21 rfl)⟩, rfl⟩
    | 23, _, _ => exact .inr ⟨⟨rfl, .inl (hd 21 rfl)⟩, rfl⟩
    | 24, _, _ => exact .inr ⟨⟨rfl, .inl (hd 21 rfl)⟩, rfl⟩
    | 25, _, _ => exact .inr ⟨⟨rfl, .inl (hd 21 rfl)⟩, rfl⟩
    | 26, _, _ => exact .inr ⟨⟨rfl, .inl (hd 21 rfl)⟩, rfl⟩
    | 27, _, _ => exact .inr ⟨⟨rfl, .inl (hd 21 rfl)⟩, rfl⟩
    | 28, _, _ => exact .inr ⟨⟨rfl, .inl (hd 21 rfl)⟩, rfl⟩
    | 29, _, _ => exact .inl ⟨rfl, ⟨_, op_pickT rfl (hd 21 rfl) rfl, rfl⟩⟩
    | qi + 30, h, _ => omega
  · intro vs X1 hb hv hal hne
    have HL0 := Hd.mk (HE.out.lt)
    have HBW := HB
    replace HB := Hd.mk (bel_then HB.out hb)
    replace HE : Hd (Env X1 [⟨w.heap.size, 24, [.int .i64 Wd, .int .i64 Ht, .slice A xs.length k]⟩, ⟨w.heap.size + 1, 26, [.int .i64 a.x, .int .i64 a.y, .int .i64 a.t, .bool a.f]⟩, ⟨w.heap.size + 1 + 1, 26, [.int .i64 b.x, .int .i64 b.y, .int .i64 b.t, .bool b.f]⟩, ⟨w.heap.size + 1 + 1 + 1, 26, [.int .i64 c.x, .int .i64 c.y, .int .i64 c.t, .bool c.f]⟩]) := ⟨HE.out.to hb⟩
    have HLS := HL0
    have e62 : vs 62 = .bool true := hv 29 (by decide) rfl
    simp only [putAll, List.foldl_cons, List.foldl_nil, Act.put, List.setIfInBounds_toArray, List.set_cons_succ, List.set_cons_zero, List.drop_succ_cons, List.drop_zero, e62]
    generalize vs 33 = s33
    generalize vs 34 = s34
    generalize vs 35 = s35
    generalize vs 36 = s36
    generalize vs 37 = s37
    generalize vs 38 = s38
    generalize vs 39 = s39
    generalize vs 40 = s40
    generalize vs 41 = s41
    generalize vs 42 = s42
    generalize vs 43 = s43
    generalize vs 44 = s44
    generalize vs 45 = s45
    generalize vs 46 = s46
    generalize vs 47 = s47
    generalize vs 48 = s48
    generalize vs 49 = s49
    generalize vs 50 = s50
    generalize vs 51 = s51
    generalize vs 52 = s52
    generalize vs 53 = s53
    generalize vs 54 = s54
    generalize vs 55 = s55
    generalize vs 56 = s56
    generalize vs 57 = s57
    generalize vs 58 = s58
    generalize vs 59 = s59
    generalize vs 60 = s60
    generalize vs 61 = s61
    clear hv hal hne hb HL0 HBW HLS e62
    go_upto_region 2 with fail
    refine wp_region_vs 9 [64, 65, 66, 67, 68, 63, 69, 70, 9] [5, 6, 7] [8] 27 [.int .i64 0, .int .i64 0, .slice none 0 0] [isV (.agg #[.int .i64 a.x, .int .i64 a.y, .int .i64 a.t, .bool a.f]), isV (.agg #[.int .i64 a.x, .int .i64 a.y, .int .i64 a.t, .bool a.f]), isV (.agg #[.int .i64 Wd, .int .i64 Ht, .slice A xs.length k]), isSt X1.heap.size Wd Ht (xs.take 70), isP (isV (.agg #[.int .i64 0, .int .i64 0, .slice none 0 0])) (isV (.int .i64 2)), isP (isV (.agg #[.int .i64 0, .int .i64 0, .slice none 0 0])) (isV (.int .i64 2)), isV (.agg #[.int .i64 0, .int .i64 0, .slice none 0 0]), isV (.int .i64 2), SP.any] (by kernel_rfl) (by kernel_rfl) (by kernel_rfl) (by rfl) alloc_T (fun d v c a w h => by cases d <;> exact h) ?_ ?_
    · intro qi qh qA aa wx hb hs hd
      match qi, qh, qA with
      | 0, _, _ => exact op_ldN rfl rfl (hs 5 rfl) ((HE.out.to hb).get 1 rfl)
      | 1, _, _ => exact op_call1 rfl rfl Try.call14 (by rw [(show aa.eval (.tmp 64) = .agg #[.int .i64 a.x, .int .i64 a.y, .int .i64 a.t, .bool a.f] from (hd 0 rfl))]; exact move_got a.x a.y a.t a.f _)
      | 2, _, _ => exact op_ldU rfl rfl (hs 4 rfl) ((HE.out.to hb).get 0 rfl)
      | 3, _, _ => exact op_call1 rfl rfl Try.call15 (by rw [(show aa.eval (.tmp 66) = .agg #[.int .i64 Wd, .int .i64 Ht, .slice A xs.length k] from (hd 2 rfl))]; exact got_st hb.size (HSTY.out _ (HRI.out.to (bel_then HB.out hb))))
      | 4, _, _ => exact op_call2 rfl rfl Try.call13 (by rw [show aa.eval (.tmp 65) = .agg #[.int .i64 a.x, .int .i64 a.y, .int .i64 a.t, .bool a.f] from (hd 1 rfl)]; exact Apply_rd_no Wd Ht a.x a.y a.t a.f (xs.take 70) HN.out _ _ (rd_st (hd 3 rfl)))
      | 5, _, _ => exact op_mv rfl (hd 4 rfl)
      | 6, _, _ => exact op_fst rfl (hd 5 rfl)
      | 7, _, _ => exact op_snd rfl (hd 5 rfl)
      | 8, _, h => cases h
      | qi + 9, h, _ => omega
    · intro vs X2 hb hv hal hne
      have HL0 := Hd.mk (HE.out.lt)
      have HBW := HB
      replace HB := Hd.mk (bel_then HB.out hb)
      replace HE : Hd (Env X2 [⟨w.heap.size, 24, [.int .i64 Wd, .int .i64 Ht, .slice A xs.length k]⟩, ⟨w.heap.size + 1, 26, [.int .i64 a.x, .int .i64 a.y, .int .i64 a.t, .bool a.f]⟩, ⟨w.heap.size + 1 + 1, 26, [.int .i64 b.x, .int .i64 b.y, .int .i64 b.t, .bool b.f]⟩, ⟨w.heap.size + 1 + 1 + 1, 26, [.int .i64 c.x, .int .i64 c.y, .int .i64 c.t, .bool c.f]⟩]) := ⟨HE.out.to hb⟩
      have HLS := HL0
      have e69 : vs 69 = .agg #[.int .i64 0, .int .i64 0, .slice none 0 0] := hv 6 (by decide) rfl
      have e70 : vs 70 = .int .i64 2 := hv 7 (by decide) rfl
      obtain ⟨g9, e9, l9, b9⟩ : ∃ g, vs 9 = .pointer (some ⟨g, 0, none⟩) ∧ _ := hal 8 rfl
      replace HE : Hd (Env X2 [⟨w.heap.size, 24, [.int .i64 Wd, .int .i64 Ht, .slice A xs.length k]⟩, ⟨w.heap.size + 1, 26, [.int .i64 a.x, .int .i64 a.y, .int .i64 a.t, .bool a.f]⟩, ⟨w.heap.size + 1 + 1, 26, [.int .i64 b.x, .int .i64 b.y, .int .i64 b.t, .bool b.f]⟩, ⟨w.heap.size + 1 + 1 + 1, 26, [.int .i64 c.x, .int .i64 c.y, .int .i64 c.t, .bool c.f]⟩, ⟨g9, 27, [.int .i64 0, .int .i64 0, .slice none 0 0]⟩]) := ⟨Env.addne (e := ⟨g9, 27, [.int .i64 0, .int .i64 0, .slice none 0 0]⟩) HE.out b9 (fun e' he => Nat.ne_of_lt (Nat.lt_of_lt_of_le (HL0.out e' he) l9))⟩
      have G9 : Hd (w.heap.size ≤ g9) := ⟨Nat.le_trans HBW.out.size l9⟩
      simp only [putAll, List.foldl_cons, List.foldl_nil, Act.put, List.setIfInBounds_toArray, List.set_cons_succ, List.set_cons_zero, List.drop_succ_cons, List.drop_zero, e69, e70, e9]
      generalize vs 64 = s64
      generalize vs 65 = s65
      generalize vs 66 = s66
      generalize vs 67 = s67
      generalize vs 68 = s68
      generalize vs 63 = s63
      clear hv hal hne hb HL0 HBW HLS e69 e70 e9 l9 b9
      refine wpList_st rfl rfl rfl rfl rfl (sto_T (HE.out.get 4 rfl)) ?_
      have HE' : Env (putL X2 g9 0 [.int .i64 0, .int .i64 0, .slice none 0 0]) [⟨w.heap.size, 24, [.int .i64 Wd, .int .i64 Ht, .slice A xs.length k]⟩, ⟨w.heap.size + 1, 26, [.int .i64 a.x, .int .i64 a.y, .int .i64 a.t, .bool a.f]⟩, ⟨w.heap.size + 1 + 1, 26, [.int .i64 b.x, .int .i64 b.y, .int .i64 b.t, .bool b.f]⟩, ⟨w.heap.size + 1 + 1 + 1, 26, [.int .i64 c.x, .int .i64 c.y, .int .i64 c.t, .bool c.f]⟩, ⟨g9, 27, [.int .i64 0, .int .i64 0, .slice none 0 0]⟩] := HE.out.putF 4 rfl rfl
      have HB' := putL_below (show w.heap.size ≤ g9 from G9.out) [.int .i64 0, .int .i64 0, .slice none 0 0] _ 0 HB.out
      generalize putL X2 g9 0 [.int .i64 0, .int .i64 0, .slice none 0 0] = X3 at *
      replace HE := Hd.mk HE'
      replace HB := Hd.mk HB'
      clear HE' HB'
      go_upto_region 3 with fail
      refine wp_region_vd 16 [71, 72, 73, 74, 75, 76, 77, 78, 79, 80, 81, 82, 83, 84, 85, 86] [0, 1, 4, 11, 12, 13, 15] [] 84 [.int .i64 0, .int .i64 0] [isV (.int .i64 2), isV (.bool false), isV (.agg #[.int .i64 Wd, .int .i64 Ht, .slice A xs.length k]), isV (.bool false), isV (.bool false), isV undef, isV undef, isV undef, isV undef, isV undef, isV undef, isV (.bool false), isV (.bool true), isV (.bool true), isV (.bool true), isV (.bool true)] (by rfl) alloc_Z ?_ ?_
      · intro qi qh qA aa wx hb hs hd
        match qi, qh, qA with
        | 0, _, _ => exact .inl ⟨rfl, op_mv rfl (hs 10 rfl)⟩
        | 1, _, _ => exact .inl ⟨rfl, pure_b (bool_eq (by decide)) (⟨_, op_eqlE rfl (hd 0 rfl) rfl, rfl⟩)⟩
        | 2, _, _ => exact .inl ⟨rfl, op_ldU rfl rfl (hs 4 rfl) ((HE.out.to hb).get 0 rfl)⟩
        | 3, _, _ => exact .inl ⟨rfl, wp_b (bool_eq HV.out) (op_call1 rfl rfl Try.call17 (rValid_rd Wd Ht xs _ _ (rd_ex (xs := xs) (hd 2 rfl) (HRI.out.to (bel_then HB.out hb)))))⟩
        | 4, _, _ => exact .inl ⟨rfl, op_mv rfl (hd 3 rfl)⟩
        | 5, _, _ => exact .inr ⟨⟨rfl, .inl (hd 4 rfl)⟩, rfl⟩
        | 6, _, _ => exact .inr ⟨⟨rfl, .inl (hd 4 rfl)⟩, rfl⟩
        | 7, _, _ => exact .inr ⟨⟨rfl, .inl (hd 4 rfl)⟩, rfl⟩
        | 8, _, _ => exact .inr ⟨⟨rfl, .inl (hd 4 rfl)⟩, rfl⟩
        | 9, _, _ => exact .inr ⟨⟨rfl, .inl (hd 4 rfl)⟩, rfl⟩
        | 10, _, _ => exact .inr ⟨⟨rfl, .inl (hd 4 rfl)⟩, rfl⟩
        | 11, _, _ => exact .inl ⟨rfl, ⟨_, op_pickF rfl (hd 4 rfl) rfl, rfl⟩⟩
        | 12, _, _ => exact .inl ⟨rfl, pure_b (bool_eq rfl) (⟨_, op_eqlB rfl (hd 1 rfl) (hd 11 rfl), rfl⟩)⟩
        | 13, _, _ => exact .inl ⟨rfl, op_mv rfl (hd 12 rfl)⟩
        | 14, _, _ => exact .inl ⟨⟨rfl, .inl (hd 13 rfl)⟩, op_call0 rfl rfl Try.call18 (awake_got _)⟩
        | 15, _, _ => exact .inl ⟨rfl, ⟨_, op_pickT rfl (hd 13 rfl) (hd 14 rfl), rfl⟩⟩
        | qi + 16, h, _ => omega
      · intro vs X4 hb hv hal hne
        have HL0 := Hd.mk (HE.out.lt)
        have HBW := HB
        replace HB := Hd.mk (bel_then HB.out hb)
        replace HE : Hd (Env X4 [⟨w.heap.size, 24, [.int .i64 Wd, .int .i64 Ht, .slice A xs.length k]⟩, ⟨w.heap.size + 1, 26, [.int .i64 a.x, .int .i64 a.y, .int .i64 a.t, .bool a.f]⟩, ⟨w.heap.size + 1 + 1, 26, [.int .i64 b.x, .int .i64 b.y, .int .i64 b.t, .bool b.f]⟩, ⟨w.heap.size + 1 + 1 + 1, 26, [.int .i64 c.x, .int .i64 c.y, .int .i64 c.t, .bool c.f]⟩, ⟨g9, 27, [.int .i64 0, .int .i64 0, .slice none 0 0]⟩]) := ⟨HE.out.to hb⟩
        have HLS := HL0
        have e86 : vs 86 = .bool true := hv 15 (by decide) rfl
        simp only [putAll, List.foldl_cons, List.foldl_nil, Act.put, List.setIfInBounds_toArray, List.set_cons_succ, List.set_cons_zero, List.drop_succ_cons, List.drop_zero, e86]
        generalize vs 71 = s71
        generalize vs 72 = s72
        generalize vs 73 = s73
        generalize vs 74 = s74
        generalize vs 75 = s75
        generalize vs 76 = s76
        generalize vs 77 = s77
        generalize vs 78 = s78
        generalize vs 79 = s79
        generalize vs 80 = s80
        generalize vs 81 = s81
        generalize vs 82 = s82
        generalize vs 83 = s83
        generalize vs 84 = s84
        generalize vs 85 = s85
        clear hv hal hne hb HL0 HBW HLS e86
        go_wp2_with fail
        go_ret
        exact ⟨_, rfl, HB.out, rfl⟩
set_option maxRecDepth 100000 in
set_option maxHeartbeats 1000000 in
theorem Groups_a (Wd Ht : Int) (a b c : Mv) (A : Option Addr) (k : Nat) (xs : List Int) (w : World) (hri : RI w A xs) (hlk : xs.length ≤ k) (hA : A = none → k = 0) (hv : validB Wd Ht xs = true) (ha : alB Wd Ht a.x a.y a.t = false) :
    Calls Try.prog 5 #[.agg #[.int .i64 Wd, .int .i64 Ht, .slice A xs.length k], .agg #[.int .i64 a.x, .int .i64 a.y, .int .i64 a.t, .bool a.f], .agg #[.int .i64 b.x, .int .i64 b.y, .int .i64 b.t, .bool b.f], .agg #[.int .i64 c.x, .int .i64 c.y, .int .i64 c.t, .bool c.f]] w (Got w (isV (.bool true)).p) := by
  have HRI := Hd.mk hri
  clear hri
  have hsh := valid_short hv
  have HSTY := Hd.mk (fun W (h : RI W A xs) => (show Calls Try.prog 15 #[_] W (Got W (isSt W.heap.size Wd Ht xs).p) from by have q := stamps_got Wd Ht A k xs W h hlk hA; rwa [List.take_of_length_le (by omega)] at q))
  have HN : Hd ((validB Wd Ht xs && alB Wd Ht a.x a.y a.t) = false) := ⟨by rw [hv, ha]; rfl⟩
  have HV := Hd.mk hv
  have FA := Hd.mk ha
  clear hv ha
  go_enter Try.func5, Try.ntmps5
  go_upto_region 1 with fail
  obtain ⟨W0, hW0⟩ : ∃ W : World, W = (((w.alloc (.cells #[.int .i64 Wd, .int .i64 Ht, .slice A xs.length k] 24)).alloc (.cells #[.int .i64 a.x, .int .i64 a.y, .int .i64 a.t, .bool a.f] 26)).alloc (.cells #[.int .i64 b.x, .int .i64 b.y, .int .i64 b.t, .bool b.f] 26)).alloc (.cells #[.int .i64 c.x, .int .i64 c.y, .int .i64 c.t, .bool c.f] 26) := ⟨_, rfl⟩
  rw [← hW0]
  obtain ⟨he, hb⟩ := env_four hW0
  have HE := Hd.mk he
  have HB := Hd.mk hb
  clear he hb hW0
  refine wp_region_vd 30 [33, 34, 35, 36, 37, 38, 39, 40, 41, 42, 43, 44, 45, 46, 47, 48, 49, 50, 51, 52, 53, 54, 55, 56, 57, 58, 59, 60, 61, 62] [2, 3, 4, 6, 10, 11, 12, 20, 21, 29] [] 84 [.int .i64 0, .int .i64 0] [isV (.agg #[.int .i64 Wd, .int .i64 Ht, .slice A xs.length k]), isV (.bool true), isV (.bool false), isV (.bool false), isV (.pointer (some ⟨w.heap.size, 0, none⟩)), isV (.int .i64 Wd), isV (.pointer (some ⟨w.heap.size, 1, none⟩)), isV (.int .i64 Ht), isV (.agg #[.int .i64 a.x, .int .i64 a.y, .int .i64 a.t, .bool a.f]), isV (.bool false), isV (.bool true), isV (.bool true), isV (.bool true), isV undef, isV undef, isV undef, isV undef, isV undef, isV undef, isV undef, isV (.bool true), isV (.bool true), isV undef, isV undef, isV undef, isV undef, isV undef, isV undef, isV undef, isV (.bool true)] (by rfl) alloc_Z ?_ ?_
  · intro qi qh qA aa wx hb hs hd
    match qi, qh, qA with
    | 0, _, _ => exact .inl ⟨rfl, op_ldU rfl rfl (hs 4 rfl) ((HE.out.to hb).get 0 rfl)⟩
    | 1, _, _ => exact .inl ⟨rfl, wp_b (bool_eq HV.out) (op_call1 rfl rfl Try.call17 (rValid_rd Wd Ht xs _ _ (rd_ex (xs := xs) (hd 0 rfl) (HRI.out.to (bel_then HB.out hb)))))⟩
    | 2, _, _ => exact .inl ⟨rfl, ⟨_, op_not rfl (hd 1 rfl), rfl⟩⟩
    | 3, _, _ => exact .inl ⟨rfl, op_mv rfl (hd 2 rfl)⟩
    | 4, _, _ => exact .inl ⟨⟨rfl, .inl (hd 3 rfl)⟩, ⟨_, op_faU0 rfl (hs 4 rfl), rfl⟩⟩
    | 5, _, _ => exact .inl ⟨⟨rfl, .inl (hd 3 rfl)⟩, op_ldI rfl rfl (hd 4 rfl) ((HE.out.to hb).cell 0 0 rfl rfl)⟩
    | 6, _, _ => exact .inl ⟨⟨rfl, .inl (hd 3 rfl)⟩, ⟨_, op_faU1 rfl (hs 4 rfl), rfl⟩⟩
    | 7, _, _ => exact .inl ⟨⟨rfl, .inl (hd 3 rfl)⟩, op_ldI rfl rfl (hd 6 rfl) ((HE.out.to hb).cell 0 1 rfl rfl)⟩
    | 8, _, _ => exact .inl ⟨⟨rfl, .inl (hd 3 rfl)⟩, op_ldN rfl rfl (hs 5 rfl) ((HE.out.to hb).get 1 rfl)⟩
    | 9, _, _ => exact .inl ⟨⟨rfl, .inl (hd 3 rfl)⟩, wp_b (bool_eq FA.out) (op_call3 rfl rfl Try.call19 (by rw [(show aa.eval (.tmp 38) = .int .i64 Wd from (hd 5 rfl)), (show aa.eval (.tmp 40) = .int .i64 Ht from (hd 7 rfl)), (show aa.eval (.tmp 41) = .agg #[.int .i64 a.x, .int .i64 a.y, .int .i64 a.t, .bool a.f] from (hd 8 rfl))]; exact Fits_got Wd Ht a.x a.y a.t a.f _))⟩
    | 10, _, _ => exact .inl ⟨⟨rfl, .inl (hd 3 rfl)⟩, ⟨_, op_not rfl (hd 9 rfl), rfl⟩⟩
    | 11, _, _ => exact .inl ⟨rfl, ⟨_, op_pickF rfl (hd 3 rfl) (hd 10 rfl), rfl⟩⟩
    | 12, _, _ => exact .inl ⟨rfl, op_mv rfl (hd 11 rfl)⟩
    | 13, _, _ => exact .inr ⟨⟨rfl, .inl (hd 12 rfl)⟩, rfl⟩
    | 14, _, _ => exact .inr ⟨⟨rfl, .inl (hd 12 rfl)⟩, rfl⟩
    | 15, _, _ => exact .inr ⟨⟨rfl, .inl (hd 12 rfl)⟩, rfl⟩
    | 16, _, _ => exact .inr ⟨⟨rfl, .inl (hd 12 rfl)⟩, rfl⟩
    | 17, _, _ => exact .inr ⟨⟨rfl, .inl (hd 12 rfl)⟩, rfl⟩
    | 18, _, _ => exact .inr ⟨⟨rfl, .inl (hd 12 rfl)⟩, rfl⟩
    | 19, _, _ => exact .inr ⟨⟨rfl, .inl (hd 12 rfl)⟩, rfl⟩
    | 20, _, _ => exact .inl ⟨rfl, ⟨_, op_pickT rfl (hd 12 rfl) rfl, rfl⟩⟩
    | 21, _, _ => exact .inl ⟨rfl, op_mv rfl (hd 20 rfl)⟩
    | 22, _, _ => exact .inr ⟨⟨rfl, .inl (hd 21 rfl)⟩, rfl⟩
    | 23, _, _ => exact .inr ⟨⟨rfl, .inl (hd 21 rfl)⟩, rfl⟩
    | 24, _, _ => exact .inr ⟨⟨rfl, .inl (hd 21 rfl)⟩, rfl⟩
    | 25, _, _ => exact .inr ⟨⟨rfl, .inl (hd 21 rfl)⟩, rfl⟩
    | 26, _, _ => exact .inr ⟨⟨rfl, .inl (hd 21 rfl)⟩, rfl⟩
    | 27, _, _ => exact .inr ⟨⟨rfl, .inl (hd 21 rfl)⟩, rfl⟩
    | 28, _, _ => exact .inr ⟨⟨rfl, .inl (hd 21 rfl)⟩, rfl⟩
    | 29, _, _ => exact .inl ⟨rfl, ⟨_, op_pickT rfl (hd 21 rfl) rfl, rfl⟩⟩
    | qi + 30, h, _ => omega
  · intro vs X1 hb hv hal hne
    have HL0 := Hd.mk (HE.out.lt)
    have HBW := HB
    replace HB := Hd.mk (bel_then HB.out hb)
    replace HE : Hd (Env X1 [⟨w.heap.size, 24, [.int .i64 Wd, .int .i64 Ht, .slice A xs.length k]⟩, ⟨w.heap.size + 1, 26, [.int .i64 a.x, .int .i64 a.y, .int .i64 a.t, .bool a.f]⟩, ⟨w.heap.size + 1 + 1, 26, [.int .i64 b.x, .int .i64 b.y, .int .i64 b.t, .bool b.f]⟩, ⟨w.heap.size + 1 + 1 + 1, 26, [.int .i64 c.x, .int .i64 c.y, .int .i64 c.t, .bool c.f]⟩]) := ⟨HE.out.to hb⟩
    have HLS := HL0
    have e62 : vs 62 = .bool true := hv 29 (by decide) rfl
    simp only [putAll, List.foldl_cons, List.foldl_nil, Act.put, List.setIfInBounds_toArray, List.set_cons_succ, List.set_cons_zero, List.drop_succ_cons, List.drop_zero, e62]
    generalize vs 33 = s33
    generalize vs 34 = s34
    generalize vs 35 = s35
    generalize vs 36 = s36
    generalize vs 37 = s37
    generalize vs 38 = s38
    generalize vs 39 = s39
    generalize vs 40 = s40
    generalize vs 41 = s41
    generalize vs 42 = s42
    generalize vs 43 = s43
    generalize vs 44 = s44
    generalize vs 45 = s45
    generalize vs 46 = s46
    generalize vs 47 = s47
    generalize vs 48 = s48
    generalize vs 49 = s49
    generalize vs 50 = s50
    generalize vs 51 = s51
    generalize vs 52 = s52
    generalize vs 53 = s53
    generalize vs 54 = s54
    generalize vs 55 = s55
    generalize vs 56 = s56
    generalize vs 57 = s57
    generalize vs 58 = s58
    generalize vs 59 = s59
    generalize vs 60 = s60
    generalize vs 61 = s61
    clear hv hal hne hb HL0 HBW HLS e62
    go_upto_region 2 with fail
    refine wp_region_vs 9 [64, 65, 66, 67, 68, 63, 69, 70, 9] [5, 6, 7] [8] 27 [.int .i64 0, .int .i64 0, .slice none 0 0] [isV (.agg #[.int .i64 a.x, .int .i64 a.y, .int .i64 a.t, .bool a.f]), isV (.agg #[.int .i64 a.x, .int .i64 a.y, .int .i64 a.t, .bool a.f]), isV (.agg #[.int .i64 Wd, .int .i64 Ht, .slice A xs.length k]), isSt X1.heap.size Wd Ht xs, isP (isV (.agg #[.int .i64 0, .int .i64 0, .slice none 0 0])) (isV (.int .i64 2)), isP (isV (.agg #[.int .i64 0, .int .i64 0, .slice none 0 0])) (isV (.int .i64 2)), isV (.agg #[.int .i64 0, .int .i64 0, .slice none 0 0]), isV (.int .i64 2), SP.any] (by kernel_rfl) (by kernel_rfl) (by kernel_rfl) (by rfl) alloc_T (fun d v c a w h => by cases d <;> exact h) ?_ ?_
    · intro qi qh qA aa wx hb hs hd
      match qi, qh, qA with
      | 0, _, _ => exact op_ldN rfl rfl (hs 5 rfl) ((HE.out.to hb).get 1 rfl)
      | 1, _, _ => exact op_call1 rfl rfl Try.call14 (by rw [(show aa.eval (.tmp 64) = .agg #[.int .i64 a.x, .int .i64 a.y, .int .i64 a.t, .bool a.f] from (hd 0 rfl))]; exact move_got a.x a.y a.t a.f _)
      | 2, _, _ => exact op_ldU rfl rfl (hs 4 rfl) ((HE.out.to hb).get 0 rfl)
      | 3, _, _ => exact op_call1 rfl rfl Try.call15 (by rw [(show aa.eval (.tmp 66) = .agg #[.int .i64 Wd, .int .i64 Ht, .slice A xs.length k] from (hd 2 rfl))]; exact got_st hb.size (HSTY.out _ (HRI.out.to (bel_then HB.out hb))))
      | 4, _, _ => exact op_call2 rfl rfl Try.call13 (by rw [show aa.eval (.tmp 65) = .agg #[.int .i64 a.x, .int .i64 a.y, .int .i64 a.t, .bool a.f] from (hd 1 rfl)]; exact Apply_rd_no Wd Ht a.x a.y a.t a.f xs HN.out _ _ (rd_st (hd 3 rfl)))
      | 5, _, _ => exact op_mv rfl (hd 4 rfl)
      | 6, _, _ => exact op_fst rfl (hd 5 rfl)
      | 7, _, _ => exact op_snd rfl (hd 5 rfl)
      | 8, _, h => cases h
      | qi + 9, h, _ => omega
    · intro vs X2 hb hv hal hne
      have HL0 := Hd.mk (HE.out.lt)
      have HBW := HB
      replace HB := Hd.mk (bel_then HB.out hb)
      replace HE : Hd (Env X2 [⟨w.heap.size, 24, [.int .i64 Wd, .int .i64 Ht, .slice A xs.length k]⟩, ⟨w.heap.size + 1, 26, [.int .i64 a.x, .int .i64 a.y, .int .i64 a.t, .bool a.f]⟩, ⟨w.heap.size + 1 + 1, 26, [.int .i64 b.x, .int .i64 b.y, .int .i64 b.t, .bool b.f]⟩, ⟨w.heap.size + 1 + 1 + 1, 26, [.int .i64 c.x, .int .i64 c.y, .int .i64 c.t, .bool c.f]⟩]) := ⟨HE.out.to hb⟩
      have HLS := HL0
      have e69 : vs 69 = .agg #[.int .i64 0, .int .i64 0, .slice none 0 0] := hv 6 (by decide) rfl
      have e70 : vs 70 = .int .i64 2 := hv 7 (by decide) rfl
      obtain ⟨g9, e9, l9, b9⟩ : ∃ g, vs 9 = .pointer (some ⟨g, 0, none⟩) ∧ _ := hal 8 rfl
      replace HE : Hd (Env X2 [⟨w.heap.size, 24, [.int .i64 Wd, .int .i64 Ht, .slice A xs.length k]⟩, ⟨w.heap.size + 1, 26, [.int .i64 a.x, .int .i64 a.y, .int .i64 a.t, .bool a.f]⟩, ⟨w.heap.size + 1 + 1, 26, [.int .i64 b.x, .int .i64 b.y, .int .i64 b.t, .bool b.f]⟩, ⟨w.heap.size + 1 + 1 + 1, 26, [.int .i64 c.x, .int .i64 c.y, .int .i64 c.t, .bool c.f]⟩, ⟨g9, 27, [.int .i64 0, .int .i64 0, .slice none 0 0]⟩]) := ⟨Env.addne (e := ⟨g9, 27, [.int .i64 0, .int .i64 0, .slice none 0 0]⟩) HE.out b9 (fun e' he => Nat.ne_of_lt (Nat.lt_of_lt_of_le (HL0.out e' he) l9))⟩
      have G9 : Hd (w.heap.size ≤ g9) := ⟨Nat.le_trans HBW.out.size l9⟩
      simp only [putAll, List.foldl_cons, List.foldl_nil, Act.put, List.setIfInBounds_toArray, List.set_cons_succ, List.set_cons_zero, List.drop_succ_cons, List.drop_zero, e69, e70, e9]
      generalize vs 64 = s64
      generalize vs 65 = s65
      generalize vs 66 = s66
      generalize vs 67 = s67
      generalize vs 68 = s68
      generalize vs 63 = s63
      clear hv hal hne hb HL0 HBW HLS e69 e70 e9 l9 b9
      refine wpList_st rfl rfl rfl rfl rfl (sto_T (HE.out.get 4 rfl)) ?_
      have HE' : Env (putL X2 g9 0 [.int .i64 0, .int .i64 0, .slice none 0 0]) [⟨w.heap.size, 24, [.int .i64 Wd, .int .i64 Ht, .slice A xs.length k]⟩, ⟨w.heap.size + 1, 26, [.int .i64 a.x, .int .i64 a.y, .int .i64 a.t, .bool a.f]⟩, ⟨w.heap.size + 1 + 1, 26, [.int .i64 b.x, .int .i64 b.y, .int .i64 b.t, .bool b.f]⟩, ⟨w.heap.size + 1 + 1 + 1, 26, [.int .i64 c.x, .int .i64 c.y, .int .i64 c.t, .bool c.f]⟩, ⟨g9, 27, [.int .i64 0, .int .i64 0, .slice none 0 0]⟩] := HE.out.putF 4 rfl rfl
      have HB' := putL_below (show w.heap.size ≤ g9 from G9.out) [.int .i64 0, .int .i64 0, .slice none 0 0] _ 0 HB.out
      generalize putL X2 g9 0 [.int .i64 0, .int .i64 0, .slice none 0 0] = X3 at *
      replace HE := Hd.mk HE'
      replace HB := Hd.mk HB'
      clear HE' HB'
      go_upto_region 3 with fail
      refine wp_region_vd 16 [71, 72, 73, 74, 75, 76, 77, 78, 79, 80, 81, 82, 83, 84, 85, 86] [0, 1, 4, 5, 7, 11, 12, 13, 15] [] 84 [.int .i64 0, .int .i64 0] [isV (.int .i64 2), isV (.bool false), isV (.agg #[.int .i64 Wd, .int .i64 Ht, .slice A xs.length k]), isV (.bool true), isV (.bool true), isV (.pointer (some ⟨w.heap.size, 0, none⟩)), isV (.int .i64 Wd), isV (.pointer (some ⟨w.heap.size, 1, none⟩)), isV (.int .i64 Ht), isV (.agg #[.int .i64 a.x, .int .i64 a.y, .int .i64 a.t, .bool a.f]), isV (.bool false), isV (.bool false), isV (.bool true), isV (.bool true), isV (.bool true), isV (.bool true)] (by rfl) alloc_Z ?_ ?_
      · intro qi qh qA aa wx hb hs hd
        match qi, qh, qA with
        | 0, _, _ => exact .inl ⟨rfl, op_mv rfl (hs 10 rfl)⟩
        | 1, _, _ => exact .inl ⟨rfl, pure_b (bool_eq (by decide)) (⟨_, op_eqlE rfl (hd 0 rfl) rfl, rfl⟩)⟩
        | 2, _, _ => exact .inl ⟨rfl, op_ldU rfl rfl (hs 4 rfl) ((HE.out.to hb).get 0 rfl)⟩
        | 3, _, _ => exact .inl ⟨rfl, wp_b (bool_eq HV.out) (op_call1 rfl rfl Try.call17 (rValid_rd Wd Ht xs _ _ (rd_ex (xs := xs) (hd 2 rfl) (HRI.out.to (bel_then HB.out hb)))))⟩
        | 4, _, _ => exact .inl ⟨rfl, op_mv rfl (hd 3 rfl)⟩
        | 5, _, _ => exact .inl ⟨⟨rfl, .inl (hd 4 rfl)⟩, ⟨_, op_faU0 rfl (hs 4 rfl), rfl⟩⟩
        | 6, _, _ => exact .inl ⟨⟨rfl, .inl (hd 4 rfl)⟩, op_ldI rfl rfl (hd 5 rfl) ((HE.out.to hb).cell 0 0 rfl rfl)⟩
        | 7, _, _ => exact .inl ⟨⟨rfl, .inl (hd 4 rfl)⟩, ⟨_, op_faU1 rfl (hs 4 rfl), rfl⟩⟩
        | 8, _, _ => exact .inl ⟨⟨rfl, .inl (hd 4 rfl)⟩, op_ldI rfl rfl (hd 7 rfl) ((HE.out.to hb).cell 0 1 rfl rfl)⟩
        | 9, _, _ => exact .inl ⟨⟨rfl, .inl (hd 4 rfl)⟩, op_ldN rfl rfl (hs 5 rfl) ((HE.out.to hb).get 1 rfl)⟩
        | 10, _, _ => exact .inl ⟨⟨rfl, .inl (hd 4 rfl)⟩, wp_b (bool_eq FA.out) (op_call3 rfl rfl Try.call19 (by rw [(show aa.eval (.tmp 77) = .int .i64 Wd from (hd 6 rfl)), (show aa.eval (.tmp 79) = .int .i64 Ht from (hd 8 rfl)), (show aa.eval (.tmp 80) = .agg #[.int .i64 a.x, .int .i64 a.y, .int .i64 a.t, .bool a.f] from (hd 9 rfl))]; exact Fits_got Wd Ht a.x a.y a.t a.f _))⟩
        | 11, _, _ => exact .inl ⟨rfl, ⟨_, op_pickT rfl (hd 4 rfl) (hd 10 rfl), rfl⟩⟩
        | 12, _, _ => exact .inl ⟨rfl, pure_b (bool_eq rfl) (⟨_, op_eqlB rfl (hd 1 rfl) (hd 11 rfl), rfl⟩)⟩
        | 13, _, _ => exact .inl ⟨rfl, op_mv rfl (hd 12 rfl)⟩
        | 14, _, _ => exact .inl ⟨⟨rfl, .inl (hd 13 rfl)⟩, op_call0 rfl rfl Try.call18 (awake_got _)⟩
        | 15, _, _ => exact .inl ⟨rfl, ⟨_, op_pickT rfl (hd 13 rfl) (hd 14 rfl), rfl⟩⟩
        | qi + 16, h, _ => omega
      · intro vs X4 hb hv hal hne
        have HL0 := Hd.mk (HE.out.lt)
        have HBW := HB
        replace HB := Hd.mk (bel_then HB.out hb)
        replace HE : Hd (Env X4 [⟨w.heap.size, 24, [.int .i64 Wd, .int .i64 Ht, .slice A xs.length k]⟩, ⟨w.heap.size + 1, 26, [.int .i64 a.x, .int .i64 a.y, .int .i64 a.t, .bool a.f]⟩, ⟨w.heap.size + 1 + 1, 26, [.int .i64 b.x, .int .i64 b.y, .int .i64 b.t, .bool b.f]⟩, ⟨w.heap.size + 1 + 1 + 1, 26, [.int .i64 c.x, .int .i64 c.y, .int .i64 c.t, .bool c.f]⟩, ⟨g9, 27, [.int .i64 0, .int .i64 0, .slice none 0 0]⟩]) := ⟨HE.out.to hb⟩
        have HLS := HL0
        have e86 : vs 86 = .bool true := hv 15 (by decide) rfl
        simp only [putAll, List.foldl_cons, List.foldl_nil, Act.put, List.setIfInBounds_toArray, List.set_cons_succ, List.set_cons_zero, List.drop_succ_cons, List.drop_zero, e86]
        generalize vs 71 = s71
        generalize vs 72 = s72
        generalize vs 73 = s73
        generalize vs 74 = s74
        generalize vs 75 = s75
        generalize vs 76 = s76
        generalize vs 77 = s77
        generalize vs 78 = s78
        generalize vs 79 = s79
        generalize vs 80 = s80
        generalize vs 81 = s81
        generalize vs 82 = s82
        generalize vs 83 = s83
        generalize vs 84 = s84
        generalize vs 85 = s85
        clear hv hal hne hb HL0 HBW HLS e86
        go_wp2_with fail
        go_ret
        exact ⟨_, rfl, HB.out, rfl⟩
set_option maxRecDepth 100000 in
set_option maxHeartbeats 1000000 in
theorem Groups_b (Wd Ht : Int) (a b c : Mv) (A : Option Addr) (k : Nat) (xs : List Int) (w : World) (hri : RI w A xs) (hlk : xs.length ≤ k) (hA : A = none → k = 0) (hv : validB Wd Ht xs = true) (ha : alB Wd Ht a.x a.y a.t = true) (hb2 : alB Wd Ht b.x b.y b.t = false) :
    Calls Try.prog 5 #[.agg #[.int .i64 Wd, .int .i64 Ht, .slice A xs.length k], .agg #[.int .i64 a.x, .int .i64 a.y, .int .i64 a.t, .bool a.f], .agg #[.int .i64 b.x, .int .i64 b.y, .int .i64 b.t, .bool b.f], .agg #[.int .i64 c.x, .int .i64 c.y, .int .i64 c.t, .bool c.f]] w (Got w (isV (.bool true)).p) := by
  have HRI := Hd.mk hri
  clear hri
  have hsh := valid_short hv
  have HSTY := Hd.mk (fun W (h : RI W A xs) => (show Calls Try.prog 15 #[_] W (Got W (isSt W.heap.size Wd Ht xs).p) from by have q := stamps_got Wd Ht A k xs W h hlk hA; rwa [List.take_of_length_le (by omega)] at q))
  have HV := Hd.mk hv
  have FA := Hd.mk ha
  have FB := Hd.mk hb2
  clear hv ha hb2
  go_enter Try.func5, Try.ntmps5
  go_upto_region 1 with fail
  obtain ⟨W0, hW0⟩ : ∃ W : World, W = (((w.alloc (.cells #[.int .i64 Wd, .int .i64 Ht, .slice A xs.length k] 24)).alloc (.cells #[.int .i64 a.x, .int .i64 a.y, .int .i64 a.t, .bool a.f] 26)).alloc (.cells #[.int .i64 b.x, .int .i64 b.y, .int .i64 b.t, .bool b.f] 26)).alloc (.cells #[.int .i64 c.x, .int .i64 c.y, .int .i64 c.t, .bool c.f] 26) := ⟨_, rfl⟩
  rw [← hW0]
  obtain ⟨he, hb⟩ := env_four hW0
  have HE := Hd.mk he
  have HB := Hd.mk hb
  clear he hb hW0
  refine wp_region_vd 30 [33, 34, 35, 36, 37, 38, 39, 40, 41, 42, 43, 44, 45, 46, 47, 48, 49, 50, 51, 52, 53, 54, 55, 56, 57, 58, 59, 60, 61, 62] [2, 3, 4, 6, 10, 11, 12, 13, 15, 19, 20, 21, 29] [] 84 [.int .i64 0, .int .i64 0] [isV (.agg #[.int .i64 Wd, .int .i64 Ht, .slice A xs.length k]), isV (.bool true), isV (.bool false), isV (.bool false), isV (.pointer (some ⟨w.heap.size, 0, none⟩)), isV (.int .i64 Wd), isV (.pointer (some ⟨w.heap.size, 1, none⟩)), isV (.int .i64 Ht), isV (.agg #[.int .i64 a.x, .int .i64 a.y, .int .i64 a.t, .bool a.f]), isV (.bool true), isV (.bool false), isV (.bool false), isV (.bool false), isV (.pointer (some ⟨w.heap.size, 0, none⟩)), isV (.int .i64 Wd), isV (.pointer (some ⟨w.heap.size, 1, none⟩)), isV (.int .i64 Ht), isV (.agg #[.int .i64 b.x, .int .i64 b.y, .int .i64 b.t, .bool b.f]), isV (.bool false), isV (.bool true), isV (.bool true), isV (.bool true), isV undef, isV undef, isV undef, isV undef, isV undef, isV undef, isV undef, isV (.bool true)] (by rfl) alloc_Z ?_ ?_
  · intro qi qh qA aa wx hb hs hd
    match qi, qh, qA with
    | 0, _, _ => exact .inl ⟨rfl, op_ldU rfl rfl (hs 4 rfl) ((HE.out.to hb).get 0 rfl)⟩
    | 1, _, _ => exact .inl ⟨rfl, wp_b (bool_eq HV.out) (op_call1 rfl rfl Try.call17 (rValid_rd Wd Ht xs _ _ (rd_ex (xs := xs) (hd 0 rfl) (HRI.out.to (bel_then HB.out hb)))))⟩
    | 2, _, _ => exact .inl ⟨rfl, ⟨_, op_not rfl (hd 1 rfl), rfl⟩⟩
    | 3, _, _ => exact .inl ⟨rfl, op_mv rfl (hd 2 rfl)⟩
    | 4, _, _ => exact .inl ⟨⟨rfl, .inl (hd 3 rfl)⟩, ⟨_, op_faU0 rfl (hs 4 rfl), rfl⟩⟩
    | 5, _, _ => exact .inl ⟨⟨rfl, .inl (hd 3 rfl)⟩, op_ldI rfl rfl (hd 4 rfl) ((HE.out.to hb).cell 0 0 rfl rfl)⟩
    | 6, _, _ => exact .inl ⟨⟨rfl, .inl (hd 3 rfl)⟩, ⟨_, op_faU1 rfl (hs 4 rfl), rfl⟩⟩
    | 7, _, _ => exact .inl ⟨⟨rfl, .inl (hd 3 rfl)⟩, op_ldI rfl rfl (hd 6 rfl) ((HE.out.to hb).cell 0 1 rfl rfl)⟩
    | 8, _, _ => exact .inl ⟨⟨rfl, .inl (hd 3 rfl)⟩, op_ldN rfl rfl (hs 5 rfl) ((HE.out.to hb).get 1 rfl)⟩
    | 9, _, _ => exact .inl ⟨⟨rfl, .inl (hd 3 rfl)⟩, wp_b (bool_eq FA.out) (op_call3 rfl rfl Try.call19 (by rw [(show aa.eval (.tmp 38) = .int .i64 Wd from (hd 5 rfl)), (show aa.eval (.tmp 40) = .int .i64 Ht from (hd 7 rfl)), (show aa.eval (.tmp 41) = .agg #[.int .i64 a.x, .int .i64 a.y, .int .i64 a.t, .bool a.f] from (hd 8 rfl))]; exact Fits_got Wd Ht a.x a.y a.t a.f _))⟩
    | 10, _, _ => exact .inl ⟨⟨rfl, .inl (hd 3 rfl)⟩, ⟨_, op_not rfl (hd 9 rfl), rfl⟩⟩
    | 11, _, _ => exact .inl ⟨rfl, ⟨_, op_pickF rfl (hd 3 rfl) (hd 10 rfl), rfl⟩⟩
    | 12, _, _ => exact .inl ⟨rfl, op_mv rfl (hd 11 rfl)⟩
    | 13, _, _ => exact .inl ⟨⟨rfl, .inl (hd 12 rfl)⟩, ⟨_, op_faU0 rfl (hs 4 rfl), rfl⟩⟩
    | 14, _, _ => exact .inl ⟨⟨rfl, .inl (hd 12 rfl)⟩, op_ldI rfl rfl (hd 13 rfl) ((HE.out.to hb).cell 0 0 rfl rfl)⟩
    | 15, _, _ => exact .inl ⟨⟨rfl, .inl (hd 12 rfl)⟩, ⟨_, op_faU1 rfl (hs 4 rfl), rfl⟩⟩
    | 16, _, _ => exact .inl ⟨⟨rfl, .inl (hd 12 rfl)⟩, op_ldI rfl rfl (hd 15 rfl) ((HE.out.to hb).cell 0 1 rfl rfl)⟩
    | 17, _, _ => exact .inl ⟨⟨rfl, .inl (hd 12 rfl)⟩, op_ldN rfl rfl (hs 6 rfl) ((HE.out.to hb).get 2 rfl)⟩
    | 18, _, _ => exact .inl ⟨⟨rfl, .inl (hd 12 rfl)⟩, wp_b (bool_eq FB.out) (op_call3 rfl rfl Try.call19 (by rw [(show aa.eval (.tmp 47) = .int .i64 Wd from (hd 14 rfl)), (show aa.eval (.tmp 49) = .int .i64 Ht from (hd 16 rfl)), (show aa.eval (.tmp 50) = .agg #[.int .i64 b.x, .int .i64 b.y, .int .i64 b.t, .bool b.f] from (hd 17 rfl))]; exact Fits_got Wd Ht b.x b.y b.t b.f _))⟩
    | 19, _, _ => exact .inl ⟨⟨rfl, .inl (hd 12 rfl)⟩, ⟨_, op_not rfl (hd 18 rfl), rfl⟩⟩
    | 20, _, _ => exact .inl ⟨rfl, ⟨_, op_pickF rfl (hd 12 rfl) (hd 19 rfl), rfl⟩⟩
    | 21, _, _ => exact .inl ⟨rfl, op_mv rfl (hd 20 rfl)⟩
    | 22, _, _ => exact .inr ⟨⟨rfl, .inl (hd 21 rfl)⟩, rfl⟩
    | 23, _, _ => exact .inr ⟨⟨rfl, .inl (hd 21 rfl)⟩, rfl⟩
    | 24, _, _ => exact .inr ⟨⟨rfl, .inl (hd 21 rfl)⟩, rfl⟩
    | 25, _, _ => exact .inr ⟨⟨rfl, .inl (hd 21 rfl)⟩, rfl⟩
    | 26, _, _ => exact .inr ⟨⟨rfl, .inl (hd 21 rfl)⟩, rfl⟩
    | 27, _, _ => exact .inr ⟨⟨rfl, .inl (hd 21 rfl)⟩, rfl⟩
    | 28, _, _ => exact .inr ⟨⟨rfl, .inl (hd 21 rfl)⟩, rfl⟩
    | 29, _, _ => exact .inl ⟨rfl, ⟨_, op_pickT rfl (hd 21 rfl) rfl, rfl⟩⟩
    | qi + 30, h, _ => omega
  · intro vs X1 hb hv hal hne
    have HL0 := Hd.mk (HE.out.lt)
    have HBW := HB
    replace HB := Hd.mk (bel_then HB.out hb)
    replace HE : Hd (Env X1 [⟨w.heap.size, 24, [.int .i64 Wd, .int .i64 Ht, .slice A xs.length k]⟩, ⟨w.heap.size + 1, 26, [.int .i64 a.x, .int .i64 a.y, .int .i64 a.t, .bool a.f]⟩, ⟨w.heap.size + 1 + 1, 26, [.int .i64 b.x, .int .i64 b.y, .int .i64 b.t, .bool b.f]⟩, ⟨w.heap.size + 1 + 1 + 1, 26, [.int .i64 c.x, .int .i64 c.y, .int .i64 c.t, .bool c.f]⟩]) := ⟨HE.out.to hb⟩
    have HLS := HL0
    have e62 : vs 62 = .bool true := hv 29 (by decide) rfl
    simp only [putAll, List.foldl_cons, List.foldl_nil, Act.put, List.setIfInBounds_toArray, List.set_cons_succ, List.set_cons_zero, List.drop_succ_cons, List.drop_zero, e62]
    generalize vs 33 = s33
    generalize vs 34 = s34
    generalize vs 35 = s35
    generalize vs 36 = s36
    generalize vs 37 = s37
    generalize vs 38 = s38
    generalize vs 39 = s39
    generalize vs 40 = s40
    generalize vs 41 = s41
    generalize vs 42 = s42
    generalize vs 43 = s43
    generalize vs 44 = s44
    generalize vs 45 = s45
    generalize vs 46 = s46
    generalize vs 47 = s47
    generalize vs 48 = s48
    generalize vs 49 = s49
    generalize vs 50 = s50
    generalize vs 51 = s51
    generalize vs 52 = s52
    generalize vs 53 = s53
    generalize vs 54 = s54
    generalize vs 55 = s55
    generalize vs 56 = s56
    generalize vs 57 = s57
    generalize vs 58 = s58
    generalize vs 59 = s59
    generalize vs 60 = s60
    generalize vs 61 = s61
    clear hv hal hne hb HL0 HBW HLS e62
    go_upto_region 2 with fail
    refine wp_region_vs 9 [64, 65, 66, 67, 68, 63, 69, 70, 9] [5, 6, 7] [8] 27 [.int .i64 0, .int .i64 0, .slice none 0 0] [isV (.agg #[.int .i64 a.x, .int .i64 a.y, .int .i64 a.t, .bool a.f]), isV (.agg #[.int .i64 a.x, .int .i64 a.y, .int .i64 a.t, .bool a.f]), isV (.agg #[.int .i64 Wd, .int .i64 Ht, .slice A xs.length k]), isSt X1.heap.size Wd Ht xs, isP (isFS X1.heap.size Wd Ht (apL Wd Ht a.x a.y a.t a.f xs)) (isV (.int .i64 0)), isP (isFS X1.heap.size Wd Ht (apL Wd Ht a.x a.y a.t a.f xs)) (isV (.int .i64 0)), isFS X1.heap.size Wd Ht (apL Wd Ht a.x a.y a.t a.f xs), isV (.int .i64 0), SP.any] (by kernel_rfl) (by kernel_rfl) (by kernel_rfl) (by rfl) alloc_T (fun d v c a w h => by cases d <;> exact h) ?_ ?_
    · intro qi qh qA aa wx hb hs hd
      match qi, qh, qA with
      | 0, _, _ => exact op_ldN rfl rfl (hs 5 rfl) ((HE.out.to hb).get 1 rfl)
      | 1, _, _ => exact op_call1 rfl rfl Try.call14 (by rw [(show aa.eval (.tmp 64) = .agg #[.int .i64 a.x, .int .i64 a.y, .int .i64 a.t, .bool a.f] from (hd 0 rfl))]; exact move_got a.x a.y a.t a.f _)
      | 2, _, _ => exact op_ldU rfl rfl (hs 4 rfl) ((HE.out.to hb).get 0 rfl)
      | 3, _, _ => exact op_call1 rfl rfl Try.call15 (by rw [(show aa.eval (.tmp 66) = .agg #[.int .i64 Wd, .int .i64 Ht, .slice A xs.length k] from (hd 2 rfl))]; exact got_st hb.size (HSTY.out _ (HRI.out.to (bel_then HB.out hb))))
      | 4, _, _ => exact op_call2 rfl rfl Try.call13 (by rw [show aa.eval (.tmp 65) = .agg #[.int .i64 a.x, .int .i64 a.y, .int .i64 a.t, .bool a.f] from (hd 1 rfl)]; exact got_fsp hb.size (Apply_rd Wd Ht a.x a.y a.t a.f xs HV.out FA.out _ _ (rd_st (hd 3 rfl))))
      | 5, _, _ => exact op_mv rfl (hd 4 rfl)
      | 6, _, _ => exact op_fst rfl (hd 5 rfl)
      | 7, _, _ => exact op_snd rfl (hd 5 rfl)
      | 8, _, h => cases h
      | qi + 9, h, _ => omega
    · intro vs X2 hb hv hal hne
      have HL0 := Hd.mk (HE.out.lt)
      have HBW := HB
      replace HB := Hd.mk (bel_then HB.out hb)
      replace HE : Hd (Env X2 [⟨w.heap.size, 24, [.int .i64 Wd, .int .i64 Ht, .slice A xs.length k]⟩, ⟨w.heap.size + 1, 26, [.int .i64 a.x, .int .i64 a.y, .int .i64 a.t, .bool a.f]⟩, ⟨w.heap.size + 1 + 1, 26, [.int .i64 b.x, .int .i64 b.y, .int .i64 b.t, .bool b.f]⟩, ⟨w.heap.size + 1 + 1 + 1, 26, [.int .i64 c.x, .int .i64 c.y, .int .i64 c.t, .bool c.f]⟩]) := ⟨HE.out.to hb⟩
      have HLS := HL0
      have t69 : (isFS X1.heap.size Wd Ht (apL Wd Ht a.x a.y a.t a.f xs)).p (vs 69) X2 := hv 6 (by decide) rfl
      obtain ⟨g69, k69, rest69, e69, l69, m69, n69, b69⟩ := t69
      replace HE : Hd (Env X2 [⟨w.heap.size, 24, [.int .i64 Wd, .int .i64 Ht, .slice A xs.length k]⟩, ⟨w.heap.size + 1, 26, [.int .i64 a.x, .int .i64 a.y, .int .i64 a.t, .bool a.f]⟩, ⟨w.heap.size + 1 + 1, 26, [.int .i64 b.x, .int .i64 b.y, .int .i64 b.t, .bool b.f]⟩, ⟨w.heap.size + 1 + 1 + 1, 26, [.int .i64 c.x, .int .i64 c.y, .int .i64 c.t, .bool c.f]⟩, ⟨g69, 3, ints (apL Wd Ht a.x a.y a.t a.f xs) ++ rest69⟩]) := ⟨Env.addne (e := ⟨g69, 3, ints (apL Wd Ht a.x a.y a.t a.f xs) ++ rest69⟩) HE.out b69 (fun e' he => Nat.ne_of_lt (Nat.lt_of_lt_of_le (HL0.out e' he) l69))⟩
      have G69 : Hd (w.heap.size ≤ g69) := ⟨Nat.le_trans HBW.out.size l69⟩
      have e70 : vs 70 = .int .i64 0 := hv 7 (by decide) rfl
      obtain ⟨g9, e9, l9, b9⟩ : ∃ g, vs 9 = .pointer (some ⟨g, 0, none⟩) ∧ _ := hal 8 rfl
      replace HE : Hd (Env X2 [⟨w.heap.size, 24, [.int .i64 Wd, .int .i64 Ht, .slice A xs.length k]⟩, ⟨w.heap.size + 1, 26, [.int .i64 a.x, .int .i64 a.y, .int .i64 a.t, .bool a.f]⟩, ⟨w.heap.size + 1 + 1, 26, [.int .i64 b.x, .int .i64 b.y, .int .i64 b.t, .bool b.f]⟩, ⟨w.heap.size + 1 + 1 + 1, 26, [.int .i64 c.x, .int .i64 c.y, .int .i64 c.t, .bool c.f]⟩, ⟨g69, 3, ints (apL Wd Ht a.x a.y a.t a.f xs) ++ rest69⟩, ⟨g9, 27, [.int .i64 0, .int .i64 0, .slice none 0 0]⟩]) := ⟨Env.addne (e := ⟨g9, 27, [.int .i64 0, .int .i64 0, .slice none 0 0]⟩) HE.out b9 (fun e' he => (List.mem_append.1 (show e' ∈ _ ++ [_] from he)).elim (fun he => Nat.ne_of_lt (Nat.lt_of_lt_of_le (HL0.out e' he) l9)) (fun he => by rw [List.mem_singleton.1 he]; exact blk_ne b69 b9 (by decide)))⟩
      have G9 : Hd (w.heap.size ≤ g9) := ⟨Nat.le_trans HBW.out.size l9⟩
      simp only [putAll, List.foldl_cons, List.foldl_nil, Act.put, List.setIfInBounds_toArray, List.set_cons_succ, List.set_cons_zero, List.drop_succ_cons, List.drop_zero, e69, e70, e9]
      generalize vs 64 = s64
      generalize vs 65 = s65
      generalize vs 66 = s66
      generalize vs 67 = s67
      generalize vs 68 = s68
      generalize vs 63 = s63
      clear hv hal hne hb HL0 HBW HLS e69 e70 e9 l69 b69 l9 b9
      refine wpList_st rfl rfl rfl rfl rfl (sto_T (HE.out.get 5 rfl)) ?_
      have HE' : Env (putL X2 g9 0 [.int .i64 Wd, .int .i64 Ht, .slice (some ⟨g69, 0, none⟩) ((apL Wd Ht a.x a.y a.t a.f xs).length) k69]) [⟨w.heap.size, 24, [.int .i64 Wd, .int .i64 Ht, .slice A xs.length k]⟩, ⟨w.heap.size + 1, 26, [.int .i64 a.x, .int .i64 a.y, .int .i64 a.t, .bool a.f]⟩, ⟨w.heap.size + 1 + 1, 26, [.int .i64 b.x, .int .i64 b.y, .int .i64 b.t, .bool b.f]⟩, ⟨w.heap.size + 1 + 1 + 1, 26, [.int .i64 c.x, .int .i64 c.y, .int .i64 c.t, .bool c.f]⟩, ⟨g69, 3, ints (apL Wd Ht a.x a.y a.t a.f xs) ++ rest69⟩, ⟨g9, 27, [.int .i64 Wd, .int .i64 Ht, .slice (some ⟨g69, 0, none⟩) ((apL Wd Ht a.x a.y a.t a.f xs).length) k69]⟩] := HE.out.putF 5 rfl rfl
      have HB' := putL_below (show w.heap.size ≤ g9 from G9.out) [.int .i64 Wd, .int .i64 Ht, .slice (some ⟨g69, 0, none⟩) ((apL Wd Ht a.x a.y a.t a.f xs).length) k69] _ 0 HB.out
      generalize putL X2 g9 0 [.int .i64 Wd, .int .i64 Ht, .slice (some ⟨g69, 0, none⟩) ((apL Wd Ht a.x a.y a.t a.f xs).length) k69] = X3 at *
      replace HE := Hd.mk HE'
      replace HB := Hd.mk HB'
      clear HE' HB'
      go_upto_region 3 with fail
      refine wp_region_vd 16 [71, 72, 73, 74, 75, 76, 77, 78, 79, 80, 81, 82, 83, 84, 85, 86] [0, 1, 4, 5, 7, 11, 12, 13, 15] [] 84 [.int .i64 0, .int .i64 0] [isV (.int .i64 0), isV (.bool true), isV (.agg #[.int .i64 Wd, .int .i64 Ht, .slice A xs.length k]), isV (.bool true), isV (.bool true), isV (.pointer (some ⟨w.heap.size, 0, none⟩)), isV (.int .i64 Wd), isV (.pointer (some ⟨w.heap.size, 1, none⟩)), isV (.int .i64 Ht), isV (.agg #[.int .i64 a.x, .int .i64 a.y, .int .i64 a.t, .bool a.f]), isV (.bool true), isV (.bool true), isV (.bool true), isV (.bool true), isV (.bool true), isV (.bool true)] (by rfl) alloc_Z ?_ ?_
      · intro qi qh qA aa wx hb hs hd
        match qi, qh, qA with
        | 0, _, _ => exact .inl ⟨rfl, op_mv rfl (hs 10 rfl)⟩
        | 1, _, _ => exact .inl ⟨rfl, pure_b (bool_eq (by decide)) (⟨_, op_eqlE rfl (hd 0 rfl) rfl, rfl⟩)⟩
        | 2, _, _ => exact .inl ⟨rfl, op_ldU rfl rfl (hs 4 rfl) ((HE.out.to hb).get 0 rfl)⟩
        | 3, _, _ => exact .inl ⟨rfl, wp_b (bool_eq HV.out) (op_call1 rfl rfl Try.call17 (rValid_rd Wd Ht xs _ _ (rd_ex (xs := xs) (hd 2 rfl) (HRI.out.to (bel_then HB.out hb)))))⟩
        | 4, _, _ => exact .inl ⟨rfl, op_mv rfl (hd 3 rfl)⟩
        | 5, _, _ => exact .inl ⟨⟨rfl, .inl (hd 4 rfl)⟩, ⟨_, op_faU0 rfl (hs 4 rfl), rfl⟩⟩
        | 6, _, _ => exact .inl ⟨⟨rfl, .inl (hd 4 rfl)⟩, op_ldI rfl rfl (hd 5 rfl) ((HE.out.to hb).cell 0 0 rfl rfl)⟩
        | 7, _, _ => exact .inl ⟨⟨rfl, .inl (hd 4 rfl)⟩, ⟨_, op_faU1 rfl (hs 4 rfl), rfl⟩⟩
        | 8, _, _ => exact .inl ⟨⟨rfl, .inl (hd 4 rfl)⟩, op_ldI rfl rfl (hd 7 rfl) ((HE.out.to hb).cell 0 1 rfl rfl)⟩
        | 9, _, _ => exact .inl ⟨⟨rfl, .inl (hd 4 rfl)⟩, op_ldN rfl rfl (hs 5 rfl) ((HE.out.to hb).get 1 rfl)⟩
        | 10, _, _ => exact .inl ⟨⟨rfl, .inl (hd 4 rfl)⟩, wp_b (bool_eq FA.out) (op_call3 rfl rfl Try.call19 (by rw [(show aa.eval (.tmp 77) = .int .i64 Wd from (hd 6 rfl)), (show aa.eval (.tmp 79) = .int .i64 Ht from (hd 8 rfl)), (show aa.eval (.tmp 80) = .agg #[.int .i64 a.x, .int .i64 a.y, .int .i64 a.t, .bool a.f] from (hd 9 rfl))]; exact Fits_got Wd Ht a.x a.y a.t a.f _))⟩
        | 11, _, _ => exact .inl ⟨rfl, ⟨_, op_pickT rfl (hd 4 rfl) (hd 10 rfl), rfl⟩⟩
        | 12, _, _ => exact .inl ⟨rfl, pure_b (bool_eq rfl) (⟨_, op_eqlB rfl (hd 1 rfl) (hd 11 rfl), rfl⟩)⟩
        | 13, _, _ => exact .inl ⟨rfl, op_mv rfl (hd 12 rfl)⟩
        | 14, _, _ => exact .inl ⟨⟨rfl, .inl (hd 13 rfl)⟩, op_call0 rfl rfl Try.call18 (awake_got _)⟩
        | 15, _, _ => exact .inl ⟨rfl, ⟨_, op_pickT rfl (hd 13 rfl) (hd 14 rfl), rfl⟩⟩
        | qi + 16, h, _ => omega
      · intro vs X4 hb hv hal hne
        have HL0 := Hd.mk (HE.out.lt)
        have HBW := HB
        replace HB := Hd.mk (bel_then HB.out hb)
        replace HE : Hd (Env X4 [⟨w.heap.size, 24, [.int .i64 Wd, .int .i64 Ht, .slice A xs.length k]⟩, ⟨w.heap.size + 1, 26, [.int .i64 a.x, .int .i64 a.y, .int .i64 a.t, .bool a.f]⟩, ⟨w.heap.size + 1 + 1, 26, [.int .i64 b.x, .int .i64 b.y, .int .i64 b.t, .bool b.f]⟩, ⟨w.heap.size + 1 + 1 + 1, 26, [.int .i64 c.x, .int .i64 c.y, .int .i64 c.t, .bool c.f]⟩, ⟨g69, 3, ints (apL Wd Ht a.x a.y a.t a.f xs) ++ rest69⟩, ⟨g9, 27, [.int .i64 Wd, .int .i64 Ht, .slice (some ⟨g69, 0, none⟩) ((apL Wd Ht a.x a.y a.t a.f xs).length) k69]⟩]) := ⟨HE.out.to hb⟩
        have HLS := HL0
        have e86 : vs 86 = .bool true := hv 15 (by decide) rfl
        simp only [putAll, List.foldl_cons, List.foldl_nil, Act.put, List.setIfInBounds_toArray, List.set_cons_succ, List.set_cons_zero, List.drop_succ_cons, List.drop_zero, e86]
        generalize vs 71 = s71
        generalize vs 72 = s72
        generalize vs 73 = s73
        generalize vs 74 = s74
        generalize vs 75 = s75
        generalize vs 76 = s76
        generalize vs 77 = s77
        generalize vs 78 = s78
        generalize vs 79 = s79
        generalize vs 80 = s80
        generalize vs 81 = s81
        generalize vs 82 = s82
        generalize vs 83 = s83
        generalize vs 84 = s84
        generalize vs 85 = s85
        clear hv hal hne hb HL0 HBW HLS e86
        go_wp2_with fail
        go_ret
        exact ⟨_, rfl, HB.out, rfl⟩
set_option maxRecDepth 100000 in
set_option maxHeartbeats 1000000 in
theorem Groups_c (Wd Ht : Int) (a b c : Mv) (A : Option Addr) (k : Nat) (xs : List Int) (w : World) (hri : RI w A xs) (hlk : xs.length ≤ k) (hA : A = none → k = 0) (hv : validB Wd Ht xs = true) (ha : alB Wd Ht a.x a.y a.t = true) (hb2 : alB Wd Ht b.x b.y b.t = true) (hc : alB Wd Ht c.x c.y c.t = false) :
    Calls Try.prog 5 #[.agg #[.int .i64 Wd, .int .i64 Ht, .slice A xs.length k], .agg #[.int .i64 a.x, .int .i64 a.y, .int .i64 a.t, .bool a.f], .agg #[.int .i64 b.x, .int .i64 b.y, .int .i64 b.t, .bool b.f], .agg #[.int .i64 c.x, .int .i64 c.y, .int .i64 c.t, .bool c.f]] w (Got w (isV (.bool true)).p) := by
  have HRI := Hd.mk hri
  clear hri
  have hsh := valid_short hv
  have HSTY := Hd.mk (fun W (h : RI W A xs) => (show Calls Try.prog 15 #[_] W (Got W (isSt W.heap.size Wd Ht xs).p) from by have q := stamps_got Wd Ht A k xs W h hlk hA; rwa [List.take_of_length_le (by omega)] at q))
  have HV := Hd.mk hv
  have FA := Hd.mk ha
  have FB := Hd.mk hb2
  have FC := Hd.mk hc
  clear hv ha hb2 hc
  go_enter Try.func5, Try.ntmps5
  go_upto_region 1 with fail
  obtain ⟨W0, hW0⟩ : ∃ W : World, W = (((w.alloc (.cells #[.int .i64 Wd, .int .i64 Ht, .slice A xs.length k] 24)).alloc (.cells #[.int .i64 a.x, .int .i64 a.y, .int .i64 a.t, .bool a.f] 26)).alloc (.cells #[.int .i64 b.x, .int .i64 b.y, .int .i64 b.t, .bool b.f] 26)).alloc (.cells #[.int .i64 c.x, .int .i64 c.y, .int .i64 c.t, .bool c.f] 26) := ⟨_, rfl⟩
  rw [← hW0]
  obtain ⟨he, hb⟩ := env_four hW0
  have HE := Hd.mk he
  have HB := Hd.mk hb
  clear he hb hW0
  refine wp_region_vd 30 [33, 34, 35, 36, 37, 38, 39, 40, 41, 42, 43, 44, 45, 46, 47, 48, 49, 50, 51, 52, 53, 54, 55, 56, 57, 58, 59, 60, 61, 62] [2, 3, 4, 6, 10, 11, 12, 13, 15, 19, 20, 21, 22, 24, 28, 29] [] 84 [.int .i64 0, .int .i64 0] [isV (.agg #[.int .i64 Wd, .int .i64 Ht, .slice A xs.length k]), isV (.bool true), isV (.bool false), isV (.bool false), isV (.pointer (some ⟨w.heap.size, 0, none⟩)), isV (.int .i64 Wd), isV (.pointer (some ⟨w.heap.size, 1, none⟩)), isV (.int .i64 Ht), isV (.agg #[.int .i64 a.x, .int .i64 a.y, .int .i64 a.t, .bool a.f]), isV (.bool true), isV (.bool false), isV (.bool false), isV (.bool false), isV (.pointer (some ⟨w.heap.size, 0, none⟩)), isV (.int .i64 Wd), isV (.pointer (some ⟨w.heap.size, 1, none⟩)), isV (.int .i64 Ht), isV (.agg #[.int .i64 b.x, .int .i64 b.y, .int .i64 b.t, .bool b.f]), isV (.bool true), isV (.bool false), isV (.bool false), isV (.bool false), isV (.pointer (some ⟨w.heap.size, 0, none⟩)), isV (.int .i64 Wd), isV (.pointer (some ⟨w.heap.size, 1, none⟩)), isV (.int .i64 Ht), isV (.agg #[.int .i64 c.x, .int .i64 c.y, .int .i64 c.t, .bool c.f]), isV (.bool false), isV (.bool true), isV (.bool true)] (by rfl) alloc_Z ?_ ?_
  · intro qi qh qA aa wx hb hs hd
    match qi, qh, qA with
    | 0, _, _ => exact .inl ⟨rfl, op_ldU rfl rfl (hs 4 rfl) ((HE.out.to hb).get 0 rfl)⟩
    | 1, _, _ => exact .inl ⟨rfl, wp_b (bool_eq HV.out) (op_call1 rfl rfl Try.call17 (rValid_rd Wd Ht xs _ _ (rd_ex (xs := xs) (hd 0 rfl) (HRI.out.to (bel_then HB.out hb)))))⟩
    | 2, _, _ => exact .inl ⟨rfl, ⟨_, op_not rfl (hd 1 rfl), rfl⟩⟩
    | 3, _, _ => exact .inl ⟨rfl, op_mv rfl (hd 2 rfl)⟩
    | 4, _, _ => exact .inl ⟨⟨rfl, .inl (hd 3 rfl)⟩, ⟨_, op_faU0 rfl (hs 4 rfl), rfl⟩⟩
    | 5, _, _ => exact .inl ⟨⟨rfl, .inl (hd 3 rfl)⟩, op_ldI rfl rfl (hd 4 rfl) ((HE.out.to hb).cell 0 0 rfl rfl)⟩
    | 6, _, _ => exact .inl ⟨⟨rfl, .inl (hd 3 rfl)⟩, ⟨_, op_faU1 rfl (hs 4 rfl), rfl⟩⟩
    | 7, _, _ => exact .inl ⟨⟨rfl, .inl (hd 3 rfl)⟩, op_ldI rfl rfl (hd 6 rfl) ((HE.out.to hb).cell 0 1 rfl rfl)⟩
    | 8, _, _ => exact .inl ⟨⟨rfl, .inl (hd 3 rfl)⟩, op_ldN rfl rfl (hs 5 rfl) ((HE.out.to hb).get 1 rfl)⟩
    | 9, _, _ => exact .inl ⟨⟨rfl, .inl (hd 3 rfl)⟩, wp_b (bool_eq FA.out) (op_call3 rfl rfl Try.call19 (by rw [(show aa.eval (.tmp 38) = .int .i64 Wd from (hd 5 rfl)), (show aa.eval (.tmp 40) = .int .i64 Ht from (hd 7 rfl)), (show aa.eval (.tmp 41) = .agg #[.int .i64 a.x, .int .i64 a.y, .int .i64 a.t, .bool a.f] from (hd 8 rfl))]; exact Fits_got Wd Ht a.x a.y a.t a.f _))⟩
    | 10, _, _ => exact .inl ⟨⟨rfl, .inl (hd 3 rfl)⟩, ⟨_, op_not rfl (hd 9 rfl), rfl⟩⟩
    | 11, _, _ => exact .inl ⟨rfl, ⟨_, op_pickF rfl (hd 3 rfl) (hd 10 rfl), rfl⟩⟩
    | 12, _, _ => exact .inl ⟨rfl, op_mv rfl (hd 11 rfl)⟩
    | 13, _, _ => exact .inl ⟨⟨rfl, .inl (hd 12 rfl)⟩, ⟨_, op_faU0 rfl (hs 4 rfl), rfl⟩⟩
    | 14, _, _ => exact .inl ⟨⟨rfl, .inl (hd 12 rfl)⟩, op_ldI rfl rfl (hd 13 rfl) ((HE.out.to hb).cell 0 0 rfl rfl)⟩
    | 15, _, _ => exact .inl ⟨⟨rfl, .inl (hd 12 rfl)⟩, ⟨_, op_faU1 rfl (hs 4 rfl), rfl⟩⟩
    | 16, _, _ => exact .inl ⟨⟨rfl, .inl (hd 12 rfl)⟩, op_ldI rfl rfl (hd 15 rfl) ((HE.out.to hb).cell 0 1 rfl rfl)⟩
    | 17, _, _ => exact .inl ⟨⟨rfl, .inl (hd 12 rfl)⟩, op_ldN rfl rfl (hs 6 rfl) ((HE.out.to hb).get 2 rfl)⟩
    | 18, _, _ => exact .inl ⟨⟨rfl, .inl (hd 12 rfl)⟩, wp_b (bool_eq FB.out) (op_call3 rfl rfl Try.call19 (by rw [(show aa.eval (.tmp 47) = .int .i64 Wd from (hd 14 rfl)), (show aa.eval (.tmp 49) = .int .i64 Ht from (hd 16 rfl)), (show aa.eval (.tmp 50) = .agg #[.int .i64 b.x, .int .i64 b.y, .int .i64 b.t, .bool b.f] from (hd 17 rfl))]; exact Fits_got Wd Ht b.x b.y b.t b.f _))⟩
    | 19, _, _ => exact .inl ⟨⟨rfl, .inl (hd 12 rfl)⟩, ⟨_, op_not rfl (hd 18 rfl), rfl⟩⟩
    | 20, _, _ => exact .inl ⟨rfl, ⟨_, op_pickF rfl (hd 12 rfl) (hd 19 rfl), rfl⟩⟩
    | 21, _, _ => exact .inl ⟨rfl, op_mv rfl (hd 20 rfl)⟩
    | 22, _, _ => exact .inl ⟨⟨rfl, .inl (hd 21 rfl)⟩, ⟨_, op_faU0 rfl (hs 4 rfl), rfl⟩⟩
    | 23, _, _ => exact .inl ⟨⟨rfl, .inl (hd 21 rfl)⟩, op_ldI rfl rfl (hd 22 rfl) ((HE.out.to hb).cell 0 0 rfl rfl)⟩
    | 24, _, _ => exact .inl ⟨⟨rfl, .inl (hd 21 rfl)⟩, ⟨_, op_faU1 rfl (hs 4 rfl), rfl⟩⟩
    | 25, _, _ => exact .inl ⟨⟨rfl, .inl (hd 21 rfl)⟩, op_ldI rfl rfl (hd 24 rfl) ((HE.out.to hb).cell 0 1 rfl rfl)⟩
    | 26, _, _ => exact .inl ⟨⟨rfl, .inl (hd 21 rfl)⟩, op_ldN rfl rfl (hs 7 rfl) ((HE.out.to hb).get 3 rfl)⟩
    | 27, _, _ => exact .inl ⟨⟨rfl, .inl (hd 21 rfl)⟩, wp_b (bool_eq FC.out) (op_call3 rfl rfl Try.call19 (by rw [(show aa.eval (.tmp 56) = .int .i64 Wd from (hd 23 rfl)), (show aa.eval (.tmp 58) = .int .i64 Ht from (hd 25 rfl)), (show aa.eval (.tmp 59) = .agg #[.int .i64 c.x, .int .i64 c.y, .int .i64 c.t, .bool c.f] from (hd 26 rfl))]; exact Fits_got Wd Ht c.x c.y c.t c.f _))⟩
    | 28, _, _ => exact .inl ⟨⟨rfl, .inl (hd 21 rfl)⟩, ⟨_, op_not rfl (hd 27 rfl), rfl⟩⟩
    | 29, _, _ => exact .inl ⟨rfl, ⟨_, op_pickF rfl (hd 21 rfl) (hd 28 rfl), rfl⟩⟩
    | qi + 30, h, _ => omega
  · intro vs X1 hb hv hal hne
    have HL0 := Hd.mk (HE.out.lt)
    have HBW := HB
    replace HB := Hd.mk (bel_then HB.out hb)
    replace HE : Hd (Env X1 [⟨w.heap.size, 24, [.int .i64 Wd, .int .i64 Ht, .slice A xs.length k]⟩, ⟨w.heap.size + 1, 26, [.int .i64 a.x, .int .i64 a.y, .int .i64 a.t, .bool a.f]⟩, ⟨w.heap.size + 1 + 1, 26, [.int .i64 b.x, .int .i64 b.y, .int .i64 b.t, .bool b.f]⟩, ⟨w.heap.size + 1 + 1 + 1, 26, [.int .i64 c.x, .int .i64 c.y, .int .i64 c.t, .bool c.f]⟩]) := ⟨HE.out.to hb⟩
    have HLS := HL0
    have e62 : vs 62 = .bool true := hv 29 (by decide) rfl
    simp only [putAll, List.foldl_cons, List.foldl_nil, Act.put, List.setIfInBounds_toArray, List.set_cons_succ, List.set_cons_zero, List.drop_succ_cons, List.drop_zero, e62]
    generalize vs 33 = s33
    generalize vs 34 = s34
    generalize vs 35 = s35
    generalize vs 36 = s36
    generalize vs 37 = s37
    generalize vs 38 = s38
    generalize vs 39 = s39
    generalize vs 40 = s40
    generalize vs 41 = s41
    generalize vs 42 = s42
    generalize vs 43 = s43
    generalize vs 44 = s44
    generalize vs 45 = s45
    generalize vs 46 = s46
    generalize vs 47 = s47
    generalize vs 48 = s48
    generalize vs 49 = s49
    generalize vs 50 = s50
    generalize vs 51 = s51
    generalize vs 52 = s52
    generalize vs 53 = s53
    generalize vs 54 = s54
    generalize vs 55 = s55
    generalize vs 56 = s56
    generalize vs 57 = s57
    generalize vs 58 = s58
    generalize vs 59 = s59
    generalize vs 60 = s60
    generalize vs 61 = s61
    clear hv hal hne hb HL0 HBW HLS e62
    go_upto_region 2 with fail
    refine wp_region_vs 9 [64, 65, 66, 67, 68, 63, 69, 70, 9] [5, 6, 7] [8] 27 [.int .i64 0, .int .i64 0, .slice none 0 0] [isV (.agg #[.int .i64 a.x, .int .i64 a.y, .int .i64 a.t, .bool a.f]), isV (.agg #[.int .i64 a.x, .int .i64 a.y, .int .i64 a.t, .bool a.f]), isV (.agg #[.int .i64 Wd, .int .i64 Ht, .slice A xs.length k]), isSt X1.heap.size Wd Ht xs, isP (isFS X1.heap.size Wd Ht (apL Wd Ht a.x a.y a.t a.f xs)) (isV (.int .i64 0)), isP (isFS X1.heap.size Wd Ht (apL Wd Ht a.x a.y a.t a.f xs)) (isV (.int .i64 0)), isFS X1.heap.size Wd Ht (apL Wd Ht a.x a.y a.t a.f xs), isV (.int .i64 0), SP.any] (by kernel_rfl) (by kernel_rfl) (by kernel_rfl) (by rfl) alloc_T (fun d v c a w h => by cases d <;> exact h) ?_ ?_
    · intro qi qh qA aa wx hb hs hd
      match qi, qh, qA with
      | 0, _, _ => exact op_ldN rfl rfl (hs 5 rfl) ((HE.out.to hb).get 1 rfl)
      | 1, _, _ => exact op_call1 rfl rfl Try.call14 (by rw [(show aa.eval (.tmp 64) = .agg #[.int .i64 a.x, .int .i64 a.y, .int .i64 a.t, .bool a.f] from (hd 0 rfl))]; exact move_got a.x a.y a.t a.f _)
      | 2, _, _ => exact op_ldU rfl rfl (hs 4 rfl) ((HE.out.to hb).get 0 rfl)
      | 3, _, _ => exact op_call1 rfl rfl Try.call15 (by rw [(show aa.eval (.tmp 66) = .agg #[.int .i64 Wd, .int .i64 Ht, .slice A xs.length k] from (hd 2 rfl))]; exact got_st hb.size (HSTY.out _ (HRI.out.to (bel_then HB.out hb))))
      | 4, _, _ => exact op_call2 rfl rfl Try.call13 (by rw [show aa.eval (.tmp 65) = .agg #[.int .i64 a.x, .int .i64 a.y, .int .i64 a.t, .bool a.f] from (hd 1 rfl)]; exact got_fsp hb.size (Apply_rd Wd Ht a.x a.y a.t a.f xs HV.out FA.out _ _ (rd_st (hd 3 rfl))))
      | 5, _, _ => exact op_mv rfl (hd 4 rfl)
      | 6, _, _ => exact op_fst rfl (hd 5 rfl)
      | 7, _, _ => exact op_snd rfl (hd 5 rfl)
      | 8, _, h => cases h
      | qi + 9, h, _ => omega
    · intro vs X2 hb hv hal hne
      have HL0 := Hd.mk (HE.out.lt)
      have HBW := HB
      replace HB := Hd.mk (bel_then HB.out hb)
      replace HE : Hd (Env X2 [⟨w.heap.size, 24, [.int .i64 Wd, .int .i64 Ht, .slice A xs.length k]⟩, ⟨w.heap.size + 1, 26, [.int .i64 a.x, .int .i64 a.y, .int .i64 a.t, .bool a.f]⟩, ⟨w.heap.size + 1 + 1, 26, [.int .i64 b.x, .int .i64 b.y, .int .i64 b.t, .bool b.f]⟩, ⟨w.heap.size + 1 + 1 + 1, 26, [.int .i64 c.x, .int .i64 c.y, .int .i64 c.t, .bool c.f]⟩]) := ⟨HE.out.to hb⟩
      have HLS := HL0
      have t69 : (isFS X1.heap.size Wd Ht (apL Wd Ht a.x a.y a.t a.f xs)).p (vs 69) X2 := hv 6 (by decide) rfl
      obtain ⟨g69, k69, rest69, e69, l69, m69, n69, b69⟩ := t69
      replace HE : Hd (Env X2 [⟨w.heap.size, 24, [.int .i64 Wd, .int .i64 Ht, .slice A xs.length k]⟩, ⟨w.heap.size + 1, 26, [.int .i64 a.x, .int .i64 a.y, .int .i64 a.t, .bool a.f]⟩, ⟨w.heap.size + 1 + 1, 26, [.int .i64 b.x, .int .i64 b.y, .int .i64 b.t, .bool b.f]⟩, ⟨w.heap.size + 1 + 1 + 1, 26, [.int .i64 c.x, .int .i64 c.y, .int .i64 c.t, .bool c.f]⟩, ⟨g69, 3, ints (apL Wd Ht a.x a.y a.t a.f xs) ++ rest69⟩]) := ⟨Env.addne (e := ⟨g69, 3, ints (apL Wd Ht a.x a.y a.t a.f xs) ++ rest69⟩) HE.out b69 (fun e' he => Nat.ne_of_lt (Nat.lt_of_lt_of_le (HL0.out e' he) l69))⟩
      have G69 : Hd (w.heap.size ≤ g69) := ⟨Nat.le_trans HBW.out.size l69⟩
      have e70 : vs 70 = .int .i64 0 := hv 7 (by decide) rfl
      obtain ⟨g9, e9, l9, b9⟩ : ∃ g, vs 9 = .pointer (some ⟨g, 0, none⟩) ∧ _ := hal 8 rfl
      replace HE : Hd (Env X2 [⟨w.heap.size, 24, [.int .i64 Wd, .int .i64 Ht, .slice A xs.length k]⟩, ⟨w.heap.size + 1, 26, [.int .i64 a.x, .int .i64 a.y, .int .i64 a.t, .bool a.f]⟩, ⟨w.heap.size + 1 + 1, 26, [.int .i64 b.x, .int .i64 b.y, .int .i64 b.t, .bool b.f]⟩, ⟨w.heap.size + 1 + 1 + 1, 26, [.int .i64 c.x, .int .i64 c.y, .int .i64 c.t, .bool c.f]⟩, ⟨g69, 3, ints (apL Wd Ht a.x a.y a.t a.f xs) ++ rest69⟩, ⟨g9, 27, [.int .i64 0, .int .i64 0, .slice none 0 0]⟩]) := ⟨Env.addne (e := ⟨g9, 27, [.int .i64 0, .int .i64 0, .slice none 0 0]⟩) HE.out b9 (fun e' he => (List.mem_append.1 (show e' ∈ _ ++ [_] from he)).elim (fun he => Nat.ne_of_lt (Nat.lt_of_lt_of_le (HL0.out e' he) l9)) (fun he => by rw [List.mem_singleton.1 he]; exact blk_ne b69 b9 (by decide)))⟩
      have G9 : Hd (w.heap.size ≤ g9) := ⟨Nat.le_trans HBW.out.size l9⟩
      simp only [putAll, List.foldl_cons, List.foldl_nil, Act.put, List.setIfInBounds_toArray, List.set_cons_succ, List.set_cons_zero, List.drop_succ_cons, List.drop_zero, e69, e70, e9]
      generalize vs 64 = s64
      generalize vs 65 = s65
      generalize vs 66 = s66
      generalize vs 67 = s67
      generalize vs 68 = s68
      generalize vs 63 = s63
      clear hv hal hne hb HL0 HBW HLS e69 e70 e9 l69 b69 l9 b9
      refine wpList_st rfl rfl rfl rfl rfl (sto_T (HE.out.get 5 rfl)) ?_
      have HE' : Env (putL X2 g9 0 [.int .i64 Wd, .int .i64 Ht, .slice (some ⟨g69, 0, none⟩) ((apL Wd Ht a.x a.y a.t a.f xs).length) k69]) [⟨w.heap.size, 24, [.int .i64 Wd, .int .i64 Ht, .slice A xs.length k]⟩, ⟨w.heap.size + 1, 26, [.int .i64 a.x, .int .i64 a.y, .int .i64 a.t, .bool a.f]⟩, ⟨w.heap.size + 1 + 1, 26, [.int .i64 b.x, .int .i64 b.y, .int .i64 b.t, .bool b.f]⟩, ⟨w.heap.size + 1 + 1 + 1, 26, [.int .i64 c.x, .int .i64 c.y, .int .i64 c.t, .bool c.f]⟩, ⟨g69, 3, ints (apL Wd Ht a.x a.y a.t a.f xs) ++ rest69⟩, ⟨g9, 27, [.int .i64 Wd, .int .i64 Ht, .slice (some ⟨g69, 0, none⟩) ((apL Wd Ht a.x a.y a.t a.f xs).length) k69]⟩] := HE.out.putF 5 rfl rfl
      have HB' := putL_below (show w.heap.size ≤ g9 from G9.out) [.int .i64 Wd, .int .i64 Ht, .slice (some ⟨g69, 0, none⟩) ((apL Wd Ht a.x a.y a.t a.f xs).length) k69] _ 0 HB.out
      generalize putL X2 g9 0 [.int .i64 Wd, .int .i64 Ht, .slice (some ⟨g69, 0, none⟩) ((apL Wd Ht a.x a.y a.t a.f xs).length) k69] = X3 at *
      replace HE := Hd.mk HE'
      replace HB := Hd.mk HB'
      clear HE' HB'
      go_upto_region 3 with fail
      refine wp_region_vd 16 [71, 72, 73, 74, 75, 76, 77, 78, 79, 80, 81, 82, 83, 84, 85, 86] [0, 1, 4, 5, 7, 11, 12, 13, 15] [] 84 [.int .i64 0, .int .i64 0] [isV (.int .i64 0), isV (.bool true), isV (.agg #[.int .i64 Wd, .int .i64 Ht, .slice A xs.length k]), isV (.bool true), isV (.bool true), isV (.pointer (some ⟨w.heap.size, 0, none⟩)), isV (.int .i64 Wd), isV (.pointer (some ⟨w.heap.size, 1, none⟩)), isV (.int .i64 Ht), isV (.agg #[.int .i64 a.x, .int .i64 a.y, .int .i64 a.t, .bool a.f]), isV (.bool true), isV (.bool true), isV (.bool true), isV (.bool true), isV (.bool true), isV (.bool true)] (by rfl) alloc_Z ?_ ?_
      · intro qi qh qA aa wx hb hs hd
        match qi, qh, qA with
        | 0, _, _ => exact .inl ⟨rfl, op_mv rfl (hs 10 rfl)⟩
        | 1, _, _ => exact .inl ⟨rfl, pure_b (bool_eq (by decide)) (⟨_, op_eqlE rfl (hd 0 rfl) rfl, rfl⟩)⟩
        | 2, _, _ => exact .inl ⟨rfl, op_ldU rfl rfl (hs 4 rfl) ((HE.out.to hb).get 0 rfl)⟩
        | 3, _, _ => exact .inl ⟨rfl, wp_b (bool_eq HV.out) (op_call1 rfl rfl Try.call17 (rValid_rd Wd Ht xs _ _ (rd_ex (xs := xs) (hd 2 rfl) (HRI.out.to (bel_then HB.out hb)))))⟩
        | 4, _, _ => exact .inl ⟨rfl, op_mv rfl (hd 3 rfl)⟩
        | 5, _, _ => exact .inl ⟨⟨rfl, .inl (hd 4 rfl)⟩, ⟨_, op_faU0 rfl (hs 4 rfl), rfl⟩⟩
        | 6, _, _ => exact .inl ⟨⟨rfl, .inl (hd 4 rfl)⟩, op_ldI rfl rfl (hd 5 rfl) ((HE.out.to hb).cell 0 0 rfl rfl)⟩
        | 7, _, _ => exact .inl ⟨⟨rfl, .inl (hd 4 rfl)⟩, ⟨_, op_faU1 rfl (hs 4 rfl), rfl⟩⟩
        | 8, _, _ => exact .inl ⟨⟨rfl, .inl (hd 4 rfl)⟩, op_ldI rfl rfl (hd 7 rfl) ((HE.out.to hb).cell 0 1 rfl rfl)⟩
        | 9, _, _ => exact .inl ⟨⟨rfl, .inl (hd 4 rfl)⟩, op_ldN rfl rfl (hs 5 rfl) ((HE.out.to hb).get 1 rfl)⟩
        | 10, _, _ => exact .inl ⟨⟨rfl, .inl (hd 4 rfl)⟩, wp_b (bool_eq FA.out) (op_call3 rfl rfl Try.call19 (by rw [(show aa.eval (.tmp 77) = .int .i64 Wd from (hd 6 rfl)), (show aa.eval (.tmp 79) = .int .i64 Ht from (hd 8 rfl)), (show aa.eval (.tmp 80) = .agg #[.int .i64 a.x, .int .i64 a.y, .int .i64 a.t, .bool a.f] from (hd 9 rfl))]; exact Fits_got Wd Ht a.x a.y a.t a.f _))⟩
        | 11, _, _ => exact .inl ⟨rfl, ⟨_, op_pickT rfl (hd 4 rfl) (hd 10 rfl), rfl⟩⟩
        | 12, _, _ => exact .inl ⟨rfl, pure_b (bool_eq rfl) (⟨_, op_eqlB rfl (hd 1 rfl) (hd 11 rfl), rfl⟩)⟩
        | 13, _, _ => exact .inl ⟨rfl, op_mv rfl (hd 12 rfl)⟩
        | 14, _, _ => exact .inl ⟨⟨rfl, .inl (hd 13 rfl)⟩, op_call0 rfl rfl Try.call18 (awake_got _)⟩
        | 15, _, _ => exact .inl ⟨rfl, ⟨_, op_pickT rfl (hd 13 rfl) (hd 14 rfl), rfl⟩⟩
        | qi + 16, h, _ => omega
      · intro vs X4 hb hv hal hne
        have HL0 := Hd.mk (HE.out.lt)
        have HBW := HB
        replace HB := Hd.mk (bel_then HB.out hb)
        replace HE : Hd (Env X4 [⟨w.heap.size, 24, [.int .i64 Wd, .int .i64 Ht, .slice A xs.length k]⟩, ⟨w.heap.size + 1, 26, [.int .i64 a.x, .int .i64 a.y, .int .i64 a.t, .bool a.f]⟩, ⟨w.heap.size + 1 + 1, 26, [.int .i64 b.x, .int .i64 b.y, .int .i64 b.t, .bool b.f]⟩, ⟨w.heap.size + 1 + 1 + 1, 26, [.int .i64 c.x, .int .i64 c.y, .int .i64 c.t, .bool c.f]⟩, ⟨g69, 3, ints (apL Wd Ht a.x a.y a.t a.f xs) ++ rest69⟩, ⟨g9, 27, [.int .i64 Wd, .int .i64 Ht, .slice (some ⟨g69, 0, none⟩) ((apL Wd Ht a.x a.y a.t a.f xs).length) k69]⟩]) := ⟨HE.out.to hb⟩
        have HLS := HL0
        have e86 : vs 86 = .bool true := hv 15 (by decide) rfl
        simp only [putAll, List.foldl_cons, List.foldl_nil, Act.put, List.setIfInBounds_toArray, List.set_cons_succ, List.set_cons_zero, List.drop_succ_cons, List.drop_zero, e86]
        generalize vs 71 = s71
        generalize vs 72 = s72
        generalize vs 73 = s73
        generalize vs 74 = s74
        generalize vs 75 = s75
        generalize vs 76 = s76
        generalize vs 77 = s77
        generalize vs 78 = s78
        generalize vs 79 = s79
        generalize vs 80 = s80
        generalize vs 81 = s81
        generalize vs 82 = s82
        generalize vs 83 = s83
        generalize vs 84 = s84
        generalize vs 85 = s85
        clear hv hal hne hb HL0 HBW HLS e86
        go_wp2_with fail
        go_ret
        exact ⟨_, rfl, HB.out, rfl⟩
end Go.Proofs.Ytddbmckbankmeaa
