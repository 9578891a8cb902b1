/- The law StampAfter. -/
import Derived.Test.YtddbmckbankmeaaTe
set_option linter.unusedVariables false
set_option linter.unusedSimpArgs false
namespace Go.Proofs.Ytddbmckbankmeaa
open Go.RowKit
theorem rInv_i {W H : Int} {m : Mv} (h : Al W H m) (w : World) : Calls Try.prog 27 #[.int .i64 W, .int .i64 H, .agg #[.int .i64 m.x, .int .i64 m.y, .int .i64 m.t, .bool m.f]] w
    (Got w (isV (.agg #[.int .i64 (invM W H m).x, .int .i64 (invM W H m).y, .int .i64 (invM W H m).t, .bool (invM W H m).f])).p) := by
  have h1 := h.w
  have h2 := h.h
  obtain ⟨Wn, rfl⟩ : ∃ n : Nat, W = n := ⟨W.toNat, by omega⟩
  obtain ⟨Hn, rfl⟩ : ∃ n : Nat, H = n := ⟨H.toNat, by omega⟩
  exact rInv_got Wn Hn m h w

set_option maxRecDepth 100000 in
set_option maxHeartbeats 1000000 in
theorem After_s (Wd Ht : Int) (a b : Mv) (hs : sizeB Wd Ht = false) (w : World) :
    Calls Try.prog 4 #[.int .i64 Wd, .int .i64 Ht, .agg #[.int .i64 a.x, .int .i64 a.y, .int .i64 a.t, .bool a.f], .agg #[.int .i64 b.x, .int .i64 b.y, .int .i64 b.t, .bool b.f]] w (Got w (isV (.bool true)).p) := by
  have HNA : Hd ((sizeB Wd Ht && alB Wd Ht a.x a.y a.t && alB Wd Ht b.x b.y b.t) = false) := ⟨by rw [hs]; rfl⟩
  have HNI : Hd ((sizeB Wd Ht && alB Wd Ht a.x a.y a.t) = false) := ⟨by rw [hs]; rfl⟩
  have HS := Hd.mk hs
  clear hs
  go_enter Try.func4, Try.ntmps4
  go_upto_region 1 with fail
  obtain ⟨W0, hW0⟩ : ∃ W : World, W = (w.alloc (.cells #[.int .i64 a.x, .int .i64 a.y, .int .i64 a.t, .bool a.f] 26)).alloc (.cells #[.int .i64 b.x, .int .i64 b.y, .int .i64 b.t, .bool b.f] 26) := ⟨_, rfl⟩
  rw [← hW0]
  obtain ⟨he, hb⟩ := env_two hW0
  have HE := Hd.mk he
  have HB := Hd.mk hb
  clear he hb hW0
  refine wp_region_vs 11 [15, 16, 17, 18, 19, 20, 21, 14, 22, 23, 9] [0, 1, 7, 8, 9] [10] 31 [.int .i64 0, .int .i64 0, .int .i64 0, .bool false] [isV (.int .i64 Wd), isV (.int .i64 Ht), isV (.agg #[.int .i64 a.x, .int .i64 a.y, .int .i64 a.t, .bool a.f]), isV (.agg #[.int .i64 a.x, .int .i64 a.y, .int .i64 a.t, .bool a.f]), isV (.agg #[.int .i64 b.x, .int .i64 b.y, .int .i64 b.t, .bool b.f]), isV (.agg #[.int .i64 b.x, .int .i64 b.y, .int .i64 b.t, .bool b.f]), isP (isV (.agg #[.int .i64 0, .int .i64 0, .int .i64 0, .bool false])) (isV (.int .i64 2)), isP (isV (.agg #[.int .i64 0, .int .i64 0, .int .i64 0, .bool false])) (isV (.int .i64 2)), isV (.agg #[.int .i64 0, .int .i64 0, .int .i64 0, .bool false]), isV (.int .i64 2), SP.any] (by kernel_rfl) (by kernel_rfl) (by kernel_rfl) (by rfl) alloc_M (fun d v c a w h => by cases d <;> exact h) ?_ ?_
  · intro qi qh qA aa wx hb hs hd
    match qi, qh, qA with
    | 0, _, _ => exact op_mv rfl (hs 0 rfl)
    | 1, _, _ => exact op_mv rfl (hs 1 rfl)
    | 2, _, _ => exact op_ldN rfl rfl (hs 6 rfl) ((HE.out.to hb).get 0 rfl)
    | 3, _, _ => exact op_call1 rfl rfl Try.call14 (by rw [(show aa.eval (.tmp 17) = .agg #[.int .i64 a.x, .int .i64 a.y, .int .i64 a.t, .bool a.f] from (hd 2 rfl))]; exact move_got a.x a.y a.t a.f _)
    | 4, _, _ => exact op_ldN rfl rfl (hs 7 rfl) ((HE.out.to hb).get 1 rfl)
    | 5, _, _ => exact op_call1 rfl rfl Try.call14 (by rw [(show aa.eval (.tmp 19) = .agg #[.int .i64 b.x, .int .i64 b.y, .int .i64 b.t, .bool b.f] from (hd 4 rfl))]; exact move_got b.x b.y b.t b.f _)
    | 6, _, _ => exact op_call4 rfl rfl Try.call23 (by rw [show aa.eval (.tmp 15) = .int .i64 Wd from (hd 0 rfl), show aa.eval (.tmp 16) = .int .i64 Ht from (hd 1 rfl), show aa.eval (.tmp 18) = .agg #[.int .i64 a.x, .int .i64 a.y, .int .i64 a.t, .bool a.f] from (hd 3 rfl), show aa.eval (.tmp 20) = .agg #[.int .i64 b.x, .int .i64 b.y, .int .i64 b.t, .bool b.f] from (hd 5 rfl)]; exact After_no Wd Ht a.x a.y a.t b.x b.y b.t a.f b.f HNA.out _)
    | 7, _, _ => exact op_mv rfl (hd 6 rfl)
    | 8, _, _ => exact op_fst rfl (hd 7 rfl)
    | 9, _, _ => exact op_snd rfl (hd 7 rfl)
    | 10, _, h => cases h
    | qi + 11, h, _ => omega
  · intro vs X1 hb hv hal hne
    have HL0 := Hd.mk (HE.out.lt)
    have HBW := HB
    replace HB := Hd.mk (bel_then HB.out hb)
    replace HE : Hd (Env X1 [⟨w.heap.size, 26, [.int .i64 a.x, .int .i64 a.y, .int .i64 a.t, .bool a.f]⟩, ⟨w.heap.size + 1, 26, [.int .i64 b.x, .int .i64 b.y, .int .i64 b.t, .bool b.f]⟩]) := ⟨HE.out.to hb⟩
    have HLS := HL0
    have e22 : vs 22 = .agg #[.int .i64 0, .int .i64 0, .int .i64 0, .bool false] := hv 8 (by decide) rfl
    have e23 : vs 23 = .int .i64 2 := hv 9 (by decide) rfl
    obtain ⟨g9, e9, l9, b9⟩ : ∃ g, vs 9 = .pointer (some ⟨g, 0, none⟩) ∧ _ := hal 10 rfl
    replace HE : Hd (Env X1 [⟨w.heap.size, 26, [.int .i64 a.x, .int .i64 a.y, .int .i64 a.t, .bool a.f]⟩, ⟨w.heap.size + 1, 26, [.int .i64 b.x, .int .i64 b.y, .int .i64 b.t, .bool b.f]⟩, ⟨g9, 31, [.int .i64 0, .int .i64 0, .int .i64 0, .bool false]⟩]) := ⟨Env.addne (e := ⟨g9, 31, [.int .i64 0, .int .i64 0, .int .i64 0, .bool false]⟩) HE.out b9 (fun e' he => Nat.ne_of_lt (Nat.lt_of_lt_of_le (HL0.out e' he) l9))⟩
    have G9 : Hd (w.heap.size ≤ g9) := ⟨Nat.le_trans HBW.out.size l9⟩
    simp only [putAll, List.foldl_cons, List.foldl_nil, Act.put, List.setIfInBounds_toArray, List.set_cons_succ, List.set_cons_zero, List.drop_succ_cons, List.drop_zero, e22, e23, e9]
    generalize vs 15 = s15
    generalize vs 16 = s16
    generalize vs 17 = s17
    generalize vs 18 = s18
    generalize vs 19 = s19
    generalize vs 20 = s20
    generalize vs 21 = s21
    generalize vs 14 = s14
    clear hv hal hne hb HL0 HBW HLS e22 e23 e9 l9 b9
    refine wpList_st rfl rfl rfl rfl rfl (sto_M (HE.out.get 2 rfl)) ?_
    have HE' : Env (putL X1 g9 0 [.int .i64 0, .int .i64 0, .int .i64 0, .bool false]) [⟨w.heap.size, 26, [.int .i64 a.x, .int .i64 a.y, .int .i64 a.t, .bool a.f]⟩, ⟨w.heap.size + 1, 26, [.int .i64 b.x, .int .i64 b.y, .int .i64 b.t, .bool b.f]⟩, ⟨g9, 31, [.int .i64 0, .int .i64 0, .int .i64 0, .bool false]⟩] := HE.out.putF 2 rfl rfl
    have HB' := putL_below (show w.heap.size ≤ g9 from G9.out) [.int .i64 0, .int .i64 0, .int .i64 0, .bool false] _ 0 HB.out
    generalize putL X1 g9 0 [.int .i64 0, .int .i64 0, .int .i64 0, .bool false] = X2 at *
    replace HE := Hd.mk HE'
    replace HB := Hd.mk HB'
    clear HE' HB'
    go_upto_region 2 with fail
    refine wp_region_vd 9 [25, 26, 27, 28, 29, 24, 30, 31, 11] [0, 1, 5, 6, 7] [8] 31 [.int .i64 0, .int .i64 0, .int .i64 0, .bool false] [isV (.int .i64 Wd), isV (.int .i64 Ht), isV (.agg #[.int .i64 a.x, .int .i64 a.y, .int .i64 a.t, .bool a.f]), isV (.agg #[.int .i64 a.x, .int .i64 a.y, .int .i64 a.t, .bool a.f]), isP (isV (.agg #[.int .i64 0, .int .i64 0, .int .i64 0, .bool false])) (isV (.int .i64 2)), isP (isV (.agg #[.int .i64 0, .int .i64 0, .int .i64 0, .bool false])) (isV (.int .i64 2)), isV (.agg #[.int .i64 0, .int .i64 0, .int .i64 0, .bool false]), isV (.int .i64 2), SP.any] (by rfl) alloc_M ?_ ?_
    · intro qi qh qA aa wx hb hs hd
      match qi, qh, qA with
      | 0, _, _ => exact .inl ⟨rfl, op_mv rfl (hs 0 rfl)⟩
      | 1, _, _ => exact .inl ⟨rfl, op_mv rfl (hs 1 rfl)⟩
      | 2, _, _ => exact .inl ⟨rfl, op_ldN rfl rfl (hs 6 rfl) ((HE.out.to hb).get 0 rfl)⟩
      | 3, _, _ => exact .inl ⟨rfl, op_call1 rfl rfl Try.call14 (by rw [(show aa.eval (.tmp 27) = .agg #[.int .i64 a.x, .int .i64 a.y, .int .i64 a.t, .bool a.f] from (hd 2 rfl))]; exact move_got a.x a.y a.t a.f _)⟩
      | 4, _, _ => exact .inl ⟨rfl, op_call3 rfl rfl Try.call24 (by rw [show aa.eval (.tmp 25) = .int .i64 Wd from (hd 0 rfl), show aa.eval (.tmp 26) = .int .i64 Ht from (hd 1 rfl), show aa.eval (.tmp 28) = .agg #[.int .i64 a.x, .int .i64 a.y, .int .i64 a.t, .bool a.f] from (hd 3 rfl)]; exact Inverse_no Wd Ht a.x a.y a.t a.f HNI.out _)⟩
      | 5, _, _ => exact .inl ⟨rfl, op_mv rfl (hd 4 rfl)⟩
      | 6, _, _ => exact .inl ⟨rfl, op_fst rfl (hd 5 rfl)⟩
      | 7, _, _ => exact .inl ⟨rfl, op_snd rfl (hd 5 rfl)⟩
      | 8, _, h => cases h
      | qi + 9, h, _ => omega
    · intro vs X3 hb hv hal hne
      have HL0 := Hd.mk (HE.out.lt)
      have HBW := HB
      replace HB := Hd.mk (bel_then HB.out hb)
      replace HE : Hd (Env X3 [⟨w.heap.size, 26, [.int .i64 a.x, .int .i64 a.y, .int .i64 a.t, .bool a.f]⟩, ⟨w.heap.size + 1, 26, [.int .i64 b.x, .int .i64 b.y, .int .i64 b.t, .bool b.f]⟩, ⟨g9, 31, [.int .i64 0, .int .i64 0, .int .i64 0, .bool false]⟩]) := ⟨HE.out.to hb⟩
      have HLS := HL0
      have e30 : vs 30 = .agg #[.int .i64 0, .int .i64 0, .int .i64 0, .bool false] := hv 6 (by decide) rfl
      have e31 : vs 31 = .int .i64 2 := hv 7 (by decide) rfl
      obtain ⟨g11, e11, l11, b11⟩ : ∃ g, vs 11 = .pointer (some ⟨g, 0, none⟩) ∧ _ := hal 8 rfl
      replace HE : Hd (Env X3 [⟨w.heap.size, 26, [.int .i64 a.x, .int .i64 a.y, .int .i64 a.t, .bool a.f]⟩, ⟨w.heap.size + 1, 26, [.int .i64 b.x, .int .i64 b.y, .int .i64 b.t, .bool b.f]⟩, ⟨g9, 31, [.int .i64 0, .int .i64 0, .int .i64 0, .bool false]⟩, ⟨g11, 31, [.int .i64 0, .int .i64 0, .int .i64 0, .bool false]⟩]) := ⟨Env.addne (e := ⟨g11, 31, [.int .i64 0, .int .i64 0, .int .i64 0, .bool false]⟩) HE.out b11 (fun e' he => Nat.ne_of_lt (Nat.lt_of_lt_of_le (HL0.out e' he) l11))⟩
      have G11 : Hd (w.heap.size ≤ g11) := ⟨Nat.le_trans HBW.out.size l11⟩
      simp only [putAll, List.foldl_cons, List.foldl_nil, Act.put, List.setIfInBounds_toArray, List.set_cons_succ, List.set_cons_zero, List.drop_succ_cons, List.drop_zero, e30, e31, e11]
      generalize vs 25 = s25
      generalize vs 26 = s26
      generalize vs 27 = s27
      generalize vs 28 = s28
      generalize vs 29 = s29
      generalize vs 24 = s24
      clear hv hal hne hb HL0 HBW HLS e30 e31 e11 l11 b11
      refine wpList_st rfl rfl rfl rfl rfl (sto_M (HE.out.get 3 rfl)) ?_
      have HE' : Env (putL X3 g11 0 [.int .i64 0, .int .i64 0, .int .i64 0, .bool false]) [⟨w.heap.size, 26, [.int .i64 a.x, .int .i64 a.y, .int .i64 a.t, .bool a.f]⟩, ⟨w.heap.size + 1, 26, [.int .i64 b.x, .int .i64 b.y, .int .i64 b.t, .bool b.f]⟩, ⟨g9, 31, [.int .i64 0, .int .i64 0, .int .i64 0, .bool false]⟩, ⟨g11, 31, [.int .i64 0, .int .i64 0, .int .i64 0, .bool false]⟩] := HE.out.putF 3 rfl rfl
      have HB' := putL_below (show w.heap.size ≤ g11 from G11.out) [.int .i64 0, .int .i64 0, .int .i64 0, .bool false] _ 0 HB.out
      generalize putL X3 g11 0 [.int .i64 0, .int .i64 0, .int .i64 0, .bool false] = X4 at *
      replace HE := Hd.mk HE'
      replace HB := Hd.mk HB'
      clear HE' HB'
      go_upto_region 3 with fail
      refine wp_region_vd 9 [32, 33, 34, 35, 36, 37, 38, 39, 40] [0, 1, 3, 8] [] 84 [.int .i64 0, .int .i64 0] [isV (.int .i64 Wd), isV (.int .i64 Ht), isV (.bool false), isV (.bool false), isV undef, isV undef, isV undef, isV undef, isV (.bool false)] (by rfl) alloc_Z ?_ ?_
      · intro qi qh qA aa wx hb hs hd
        match qi, qh, qA with
        | 0, _, _ => exact .inl ⟨rfl, op_mv rfl (hs 0 rfl)⟩
        | 1, _, _ => exact .inl ⟨rfl, op_mv rfl (hs 1 rfl)⟩
        | 2, _, _ => exact .inl ⟨rfl, wp_b (bool_eq HS.out) (op_call2 rfl rfl Try.call25 (by rw [(show aa.eval (.tmp 32) = .int .i64 Wd from (hd 0 rfl)), (show aa.eval (.tmp 33) = .int .i64 Ht from (hd 1 rfl))]; exact rSize_got Wd Ht _))⟩
        | 3, _, _ => exact .inl ⟨rfl, op_mv rfl (hd 2 rfl)⟩
        | 4, _, _ => exact .inr ⟨⟨rfl, .inl (hd 3 rfl)⟩, rfl⟩
        | 5, _, _ => exact .inr ⟨⟨rfl, .inl (hd 3 rfl)⟩, rfl⟩
        | 6, _, _ => exact .inr ⟨⟨rfl, .inl (hd 3 rfl)⟩, rfl⟩
        | 7, _, _ => exact .inr ⟨⟨rfl, .inl (hd 3 rfl)⟩, rfl⟩
        | 8, _, _ => exact .inl ⟨rfl, ⟨_, op_pickF rfl (hd 3 rfl) rfl, rfl⟩⟩
        | qi + 9, h, _ => omega
      · intro vs X5 hb hv hal hne
        have HL0 := Hd.mk (HE.out.lt)
        have HBW := HB
        replace HB := Hd.mk (bel_then HB.out hb)
        replace HE : Hd (Env X5 [⟨w.heap.size, 26, [.int .i64 a.x, .int .i64 a.y, .int .i64 a.t, .bool a.f]⟩, ⟨w.heap.size + 1, 26, [.int .i64 b.x, .int .i64 b.y, .int .i64 b.t, .bool b.f]⟩, ⟨g9, 31, [.int .i64 0, .int .i64 0, .int .i64 0, .bool false]⟩, ⟨g11, 31, [.int .i64 0, .int .i64 0, .int .i64 0, .bool false]⟩]) := ⟨HE.out.to hb⟩
        have HLS := HL0
        have e40 : vs 40 = .bool false := hv 8 (by decide) rfl
        simp only [putAll, List.foldl_cons, List.foldl_nil, Act.put, List.setIfInBounds_toArray, List.set_cons_succ, List.set_cons_zero, List.drop_succ_cons, List.drop_zero, e40]
        generalize vs 32 = s32
        generalize vs 33 = s33
        generalize vs 34 = s34
        generalize vs 35 = s35
        generalize vs 36 = s36
        generalize vs 37 = s37
        generalize vs 38 = s38
        generalize vs 39 = s39
        clear hv hal hne hb HL0 HBW HLS e40
        go_upto_region 4 with fail
        refine wp_region_vd 2 [41, 42] [0, 1] [] 84 [.int .i64 0, .int .i64 0] [isV (.bool false), isV (.bool true)] (by rfl) alloc_Z ?_ ?_
        · intro qi qh qA aa wx hb hs hd
          match qi, qh, qA with
          | 0, _, _ => exact .inl ⟨rfl, op_mv rfl (hs 13 rfl)⟩
          | 1, _, _ => exact .inl ⟨rfl, ⟨_, op_not rfl (hd 0 rfl), rfl⟩⟩
          | qi + 2, h, _ => omega
        · intro vs X6 hb hv hal hne
          have HL0 := Hd.mk (HE.out.lt)
          have HBW := HB
          replace HB := Hd.mk (bel_then HB.out hb)
          replace HE : Hd (Env X6 [⟨w.heap.size, 26, [.int .i64 a.x, .int .i64 a.y, .int .i64 a.t, .bool a.f]⟩, ⟨w.heap.size + 1, 26, [.int .i64 b.x, .int .i64 b.y, .int .i64 b.t, .bool b.f]⟩, ⟨g9, 31, [.int .i64 0, .int .i64 0, .int .i64 0, .bool false]⟩, ⟨g11, 31, [.int .i64 0, .int .i64 0, .int .i64 0, .bool false]⟩]) := ⟨HE.out.to hb⟩
          have HLS := HL0
          have e42 : vs 42 = .bool true := hv 1 (by decide) rfl
          simp only [putAll, List.foldl_cons, List.foldl_nil, Act.put, List.setIfInBounds_toArray, List.set_cons_succ, List.set_cons_zero, List.drop_succ_cons, List.drop_zero, e42]
          generalize vs 41 = s41
          clear hv hal hne hb HL0 HBW HLS e42
          go_upto_region 5 with fail
          refine wp_region_vd 19 [43, 44, 45, 46, 47, 48, 49, 50, 51, 52, 53, 54, 55, 56, 57, 58, 59, 60, 61] [1, 2, 3, 4, 5, 6, 7, 9, 10, 11, 12, 13, 14, 15, 16, 18] [] 84 [.int .i64 0, .int .i64 0] [isV (.agg #[.int .i64 0, .int .i64 0, .int .i64 0, .bool false]), isV (.agg #[.int .i64 0, .int .i64 0, .int .i64 0, .bool false]), isV (.bool true), isV (.bool true), isV (.int .i64 2), isV (.bool true), isV (.bool true), isV (.bool true), isV (.agg #[.int .i64 0, .int .i64 0, .int .i64 0, .bool false]), isV (.agg #[.int .i64 0, .int .i64 0, .int .i64 0, .bool false]), isV (.bool true), isV (.bool true), isV (.bool true), isV (.int .i64 2), isV (.bool true), isV (.bool true), isV (.bool true), isV (.bool true), isV (.bool true)] (by rfl) alloc_Z ?_ ?_
          · intro qi qh qA aa wx hb hs hd
            match qi, qh, qA with
            | 0, _, _ => exact .inl ⟨rfl, op_ldM rfl rfl (hs 9 rfl) ((HE.out.to hb).get 2 rfl)⟩
            | 1, _, _ => exact .inl ⟨rfl, ⟨_, op_b0M rfl, rfl⟩⟩
            | 2, _, _ => exact .inl ⟨rfl, ⟨_, op_eqlM rfl (hd 0 rfl) (hd 1 rfl), rfl⟩⟩
            | 3, _, _ => exact .inl ⟨rfl, op_mv rfl (hd 2 rfl)⟩
            | 4, _, _ => exact .inl ⟨⟨rfl, .inl (hd 3 rfl)⟩, op_mv rfl (hs 10 rfl)⟩
            | 5, _, _ => exact .inl ⟨⟨rfl, .inl (hd 3 rfl)⟩, pure_b (bool_eq (by decide)) (⟨_, op_eqlE rfl (hd 4 rfl) rfl, rfl⟩)⟩
            | 6, _, _ => exact .inl ⟨rfl, ⟨_, op_pickT rfl (hd 3 rfl) (hd 5 rfl), rfl⟩⟩
            | 7, _, _ => exact .inl ⟨rfl, op_mv rfl (hd 6 rfl)⟩
            | 8, _, _ => exact .inl ⟨⟨rfl, .inl (hd 7 rfl)⟩, op_ldM rfl rfl (hs 11 rfl) ((HE.out.to hb).get 3 rfl)⟩
            | 9, _, _ => exact .inl ⟨⟨rfl, .inl (hd 7 rfl)⟩, ⟨_, op_b0M rfl, rfl⟩⟩
            | 10, _, _ => exact .inl ⟨⟨rfl, .inl (hd 7 rfl)⟩, ⟨_, op_eqlM rfl (hd 8 rfl) (hd 9 rfl), rfl⟩⟩
            | 11, _, _ => exact .inl ⟨rfl, ⟨_, op_pickT rfl (hd 7 rfl) (hd 10 rfl), rfl⟩⟩
            | 12, _, _ => exact .inl ⟨rfl, op_mv rfl (hd 11 rfl)⟩
            | 13, _, _ => exact .inl ⟨⟨rfl, .inl (hd 12 rfl)⟩, op_mv rfl (hs 12 rfl)⟩
            | 14, _, _ => exact .inl ⟨⟨rfl, .inl (hd 12 rfl)⟩, pure_b (bool_eq (by decide)) (⟨_, op_eqlE rfl (hd 13 rfl) rfl, rfl⟩)⟩
            | 15, _, _ => exact .inl ⟨rfl, ⟨_, op_pickT rfl (hd 12 rfl) (hd 14 rfl), rfl⟩⟩
            | 16, _, _ => exact .inl ⟨rfl, op_mv rfl (hd 15 rfl)⟩
            | 17, _, _ => exact .inl ⟨⟨rfl, .inl (hd 16 rfl)⟩, op_call0 rfl rfl Try.call18 (awake_got _)⟩
            | 18, _, _ => exact .inl ⟨rfl, ⟨_, op_pickT rfl (hd 16 rfl) (hd 17 rfl), rfl⟩⟩
            | qi + 19, h, _ => omega
          · intro vs X7 hb hv hal hne
            have HL0 := Hd.mk (HE.out.lt)
            have HBW := HB
            replace HB := Hd.mk (bel_then HB.out hb)
            replace HE : Hd (Env X7 [⟨w.heap.size, 26, [.int .i64 a.x, .int .i64 a.y, .int .i64 a.t, .bool a.f]⟩, ⟨w.heap.size + 1, 26, [.int .i64 b.x, .int .i64 b.y, .int .i64 b.t, .bool b.f]⟩, ⟨g9, 31, [.int .i64 0, .int .i64 0, .int .i64 0, .bool false]⟩, ⟨g11, 31, [.int .i64 0, .int .i64 0, .int .i64 0, .bool false]⟩]) := ⟨HE.out.to hb⟩
            have HLS := HL0
            have e61 : vs 61 = .bool true := hv 18 (by decide) rfl
            simp only [putAll, List.foldl_cons, List.foldl_nil, Act.put, List.setIfInBounds_toArray, List.set_cons_succ, List.set_cons_zero, List.drop_succ_cons, List.drop_zero, e61]
            generalize vs 43 = s43
            generalize vs 44 = s44
            generalize vs 45 = s45
            generalize vs 46 = s46
            generalize vs 47 = s47
            generalize vs 48 = s48
            generalize vs 49 = s49
            generalize vs 50 = s50
            generalize vs 51 = s51
            generalize vs 52 = s52
            generalize vs 53 = s53
            generalize vs 54 = s54
            generalize vs 55 = s55
            generalize vs 56 = s56
            generalize vs 57 = s57
            generalize vs 58 = s58
            generalize vs 59 = s59
            generalize vs 60 = s60
            clear hv hal hne hb HL0 HBW HLS e61
            go_wp2_with fail
            go_ret
            exact ⟨_, rfl, HB.out, rfl⟩
set_option maxRecDepth 100000 in
set_option maxHeartbeats 1000000 in
theorem After_a (Wd Ht : Int) (a b : Mv) (hs : sizeB Wd Ht = true) (ha : alB Wd Ht a.x a.y a.t = false) (w : World) :
    Calls Try.prog 4 #[.int .i64 Wd, .int .i64 Ht, .agg #[.int .i64 a.x, .int .i64 a.y, .int .i64 a.t, .bool a.f], .agg #[.int .i64 b.x, .int .i64 b.y, .int .i64 b.t, .bool b.f]] w (Got w (isV (.bool true)).p) := by
  have HNA : Hd ((sizeB Wd Ht && alB Wd Ht a.x a.y a.t && alB Wd Ht b.x b.y b.t) = false) := ⟨by rw [hs, ha]; rfl⟩
  have HNI : Hd ((sizeB Wd Ht && alB Wd Ht a.x a.y a.t) = false) := ⟨by rw [hs, ha]; rfl⟩
  have HS := Hd.mk hs
  have FA := Hd.mk ha
  clear hs ha
  go_enter Try.func4, Try.ntmps4
  go_upto_region 1 with fail
  obtain ⟨W0, hW0⟩ : ∃ W : World, W = (w.alloc (.cells #[.int .i64 a.x, .int .i64 a.y, .int .i64 a.t, .bool a.f] 26)).alloc (.cells #[.int .i64 b.x, .int .i64 b.y, .int .i64 b.t, .bool b.f] 26) := ⟨_, rfl⟩
  rw [← hW0]
  obtain ⟨he, hb⟩ := env_two hW0
  have HE := Hd.mk he
  have HB := Hd.mk hb
  clear he hb hW0
  refine wp_region_vs 11 [15, 16, 17, 18, 19, 20, 21, 14, 22, 23, 9] [0, 1, 7, 8, 9] [10] 31 [.int .i64 0, .int .i64 0, .int .i64 0, .bool false] [isV (.int .i64 Wd), isV (.int .i64 Ht), isV (.agg #[.int .i64 a.x, .int .i64 a.y, .int .i64 a.t, .bool a.f]), isV (.agg #[.int .i64 a.x, .int .i64 a.y, .int .i64 a.t, .bool a.f]), isV (.agg #[.int .i64 b.x, .int .i64 b.y, .int .i64 b.t, .bool b.f]), isV (.agg #[.int .i64 b.x, .int .i64 b.y, .int .i64 b.t, .bool b.f]), isP (isV (.agg #[.int .i64 0, .int .i64 0, .int .i64 0, .bool false])) (isV (.int .i64 2)), isP (isV (.agg #[.int .i64 0, .int .i64 0, .int .i64 0, .bool false])) (isV (.int .i64 2)), isV (.agg #[.int .i64 0, .int .i64 0, .int .i64 0, .bool false]), isV (.int .i64 2), SP.any] (by kernel_rfl) (by kernel_rfl) (by kernel_rfl) (by rfl) alloc_M (fun d v c a w h => by cases d <;> exact h) ?_ ?_
  · intro qi qh qA aa wx hb hs hd
    match qi, qh, qA with
    | 0, _, _ => exact op_mv rfl (hs 0 rfl)
    | 1, _, _ => exact op_mv rfl (hs 1 rfl)
    | 2, _, _ => exact op_ldN rfl rfl (hs 6 rfl) ((HE.out.to hb).get 0 rfl)
    | 3, _, _ => exact op_call1 rfl rfl Try.call14 (by rw [(show aa.eval (.tmp 17) = .agg #[.int .i64 a.x, .int .i64 a.y, .int .i64 a.t, .bool a.f] from (hd 2 rfl))]; exact move_got a.x a.y a.t a.f _)
    | 4, _, _ => exact op_ldN rfl rfl (hs 7 rfl) ((HE.out.to hb).get 1 rfl)
    | 5, _, _ => exact op_call1 rfl rfl Try.call14 (by rw [(show aa.eval (.tmp 19) = .agg #[.int .i64 b.x, .int .i64 b.y, .int .i64 b.t, .bool b.f] from (hd 4 rfl))]; exact move_got b.x b.y b.t b.f _)
    | 6, _, _ => exact op_call4 rfl rfl Try.call23 (by rw [show aa.eval (.tmp 15) = .int .i64 Wd from (hd 0 rfl), show aa.eval (.tmp 16) = .int .i64 Ht from (hd 1 rfl), show aa.eval (.tmp 18) = .agg #[.int .i64 a.x, .int .i64 a.y, .int .i64 a.t, .bool a.f] from (hd 3 rfl), show aa.eval (.tmp 20) = .agg #[.int .i64 b.x, .int .i64 b.y, .int .i64 b.t, .bool b.f] from (hd 5 rfl)]; exact After_no Wd Ht a.x a.y a.t b.x b.y b.t a.f b.f HNA.out _)
    | 7, _, _ => exact op_mv rfl (hd 6 rfl)
    | 8, _, _ => exact op_fst rfl (hd 7 rfl)
    | 9, _, _ => exact op_snd rfl (hd 7 rfl)
    | 10, _, h => cases h
    | qi + 11, h, _ => omega
  · intro vs X1 hb hv hal hne
    have HL0 := Hd.mk (HE.out.lt)
    have HBW := HB
    replace HB := Hd.mk (bel_then HB.out hb)
    replace HE : Hd (Env X1 [⟨w.heap.size, 26, [.int .i64 a.x, .int .i64 a.y, .int .i64 a.t, .bool a.f]⟩, ⟨w.heap.size + 1, 26, [.int .i64 b.x, .int .i64 b.y, .int .i64 b.t, .bool b.f]⟩]) := ⟨HE.out.to hb⟩
    have HLS := HL0
    have e22 : vs 22 = .agg #[.int .i64 0, .int .i64 0, .int .i64 0, .bool false] := hv 8 (by decide) rfl
    have e23 : vs 23 = .int .i64 2 := hv 9 (by decide) rfl
    obtain ⟨g9, e9, l9, b9⟩ : ∃ g, vs 9 = .pointer (some ⟨g, 0, none⟩) ∧ _ := hal 10 rfl
    replace HE : Hd (Env X1 [⟨w.heap.size, 26, [.int .i64 a.x, .int .i64 a.y, .int .i64 a.t, .bool a.f]⟩, ⟨w.heap.size + 1, 26, [.int .i64 b.x, .int .i64 b.y, .int .i64 b.t, .bool b.f]⟩, ⟨g9, 31, [.int .i64 0, .int .i64 0, .int .i64 0, .bool false]⟩]) := ⟨Env.addne (e := ⟨g9, 31, [.int .i64 0, .int .i64 0, .int .i64 0, .bool false]⟩) HE.out b9 (fun e' he => Nat.ne_of_lt (Nat.lt_of_lt_of_le (HL0.out e' he) l9))⟩
    have G9 : Hd (w.heap.size ≤ g9) := ⟨Nat.le_trans HBW.out.size l9⟩
    simp only [putAll, List.foldl_cons, List.foldl_nil, Act.put, List.setIfInBounds_toArray, List.set_cons_succ, List.set_cons_zero, List.drop_succ_cons, List.drop_zero, e22, e23, e9]
    generalize vs 15 = s15
    generalize vs 16 = s16
    generalize vs 17 = s17
    generalize vs 18 = s18
    generalize vs 19 = s19
    generalize vs 20 = s20
    generalize vs 21 = s21
    generalize vs 14 = s14
    clear hv hal hne hb HL0 HBW HLS e22 e23 e9 l9 b9
    refine wpList_st rfl rfl rfl rfl rfl (sto_M (HE.out.get 2 rfl)) ?_
    have HE' : Env (putL X1 g9 0 [.int .i64 0, .int .i64 0, .int .i64 0, .bool false]) [⟨w.heap.size, 26, [.int .i64 a.x, .int .i64 a.y, .int .i64 a.t, .bool a.f]⟩, ⟨w.heap.size + 1, 26, [.int .i64 b.x, .int .i64 b.y, .int .i64 b.t, .bool b.f]⟩, ⟨g9, 31, [.int .i64 0, .int .i64 0, .int .i64 0, .bool false]⟩] := HE.out.putF 2 rfl rfl
    have HB' := putL_below (show w.heap.size ≤ g9 from G9.out) [.int .i64 0, .int .i64 0, .int .i64 0, .bool false] _ 0 HB.out
    generalize putL X1 g9 0 [.int .i64 0, .int .i64 0, .int .i64 0, .bool false] = X2 at *
    replace HE := Hd.mk HE'
    replace HB := Hd.mk HB'
    clear HE' HB'
    go_upto_region 2 with fail
    refine wp_region_vd 9 [25, 26, 27, 28, 29, 24, 30, 31, 11] [0, 1, 5, 6, 7] [8] 31 [.int .i64 0, .int .i64 0, .int .i64 0, .bool false] [isV (.int .i64 Wd), isV (.int .i64 Ht), isV (.agg #[.int .i64 a.x, .int .i64 a.y, .int .i64 a.t, .bool a.f]), isV (.agg #[.int .i64 a.x, .int .i64 a.y, .int .i64 a.t, .bool a.f]), isP (isV (.agg #[.int .i64 0, .int .i64 0, .int .i64 0, .bool false])) (isV (.int .i64 2)), isP (isV (.agg #[.int .i64 0, .int .i64 0, .int .i64 0, .bool false])) (isV (.int .i64 2)), isV (.agg #[.int .i64 0, .int .i64 0, .int .i64 0, .bool false]), isV (.int .i64 2), SP.any] (by rfl) alloc_M ?_ ?_
    · intro qi qh qA aa wx hb hs hd
      match qi, qh, qA with
      | 0, _, _ => exact .inl ⟨rfl, op_mv rfl (hs 0 rfl)⟩
      | 1, _, _ => exact .inl ⟨rfl, op_mv rfl (hs 1 rfl)⟩
      | 2, _, _ => exact .inl ⟨rfl, op_ldN rfl rfl (hs 6 rfl) ((HE.out.to hb).get 0 rfl)⟩
      | 3, _, _ => exact .inl ⟨rfl, op_call1 rfl rfl Try.call14 (by rw [(show aa.eval (.tmp 27) = .agg #[.int .i64 a.x, .int .i64 a.y, .int .i64 a.t, .bool a.f] from (hd 2 rfl))]; exact move_got a.x a.y a.t a.f _)⟩
      | 4, _, _ => exact .inl ⟨rfl, op_call3 rfl rfl Try.call24 (by rw [show aa.eval (.tmp 25) = .int .i64 Wd from (hd 0 rfl), show aa.eval (.tmp 26) = .int .i64 Ht from (hd 1 rfl), show aa.eval (.tmp 28) = .agg #[.int .i64 a.x, .int .i64 a.y, .int .i64 a.t, .bool a.f] from (hd 3 rfl)]; exact Inverse_no Wd Ht a.x a.y a.t a.f HNI.out _)⟩
      | 5, _, _ => exact .inl ⟨rfl, op_mv rfl (hd 4 rfl)⟩
      | 6, _, _ => exact .inl ⟨rfl, op_fst rfl (hd 5 rfl)⟩
      | 7, _, _ => exact .inl ⟨rfl, op_snd rfl (hd 5 rfl)⟩
      | 8, _, h => cases h
      | qi + 9, h, _ => omega
    · intro vs X3 hb hv hal hne
      have HL0 := Hd.mk (HE.out.lt)
      have HBW := HB
      replace HB := Hd.mk (bel_then HB.out hb)
      replace HE : Hd (Env X3 [⟨w.heap.size, 26, [.int .i64 a.x, .int .i64 a.y, .int .i64 a.t, .bool a.f]⟩, ⟨w.heap.size + 1, 26, [.int .i64 b.x, .int .i64 b.y, .int .i64 b.t, .bool b.f]⟩, ⟨g9, 31, [.int .i64 0, .int .i64 0, .int .i64 0, .bool false]⟩]) := ⟨HE.out.to hb⟩
      have HLS := HL0
      have e30 : vs 30 = .agg #[.int .i64 0, .int .i64 0, .int .i64 0, .bool false] := hv 6 (by decide) rfl
      have e31 : vs 31 = .int .i64 2 := hv 7 (by decide) rfl
      obtain ⟨g11, e11, l11, b11⟩ : ∃ g, vs 11 = .pointer (some ⟨g, 0, none⟩) ∧ _ := hal 8 rfl
      replace HE : Hd (Env X3 [⟨w.heap.size, 26, [.int .i64 a.x, .int .i64 a.y, .int .i64 a.t, .bool a.f]⟩, ⟨w.heap.size + 1, 26, [.int .i64 b.x, .int .i64 b.y, .int .i64 b.t, .bool b.f]⟩, ⟨g9, 31, [.int .i64 0, .int .i64 0, .int .i64 0, .bool false]⟩, ⟨g11, 31, [.int .i64 0, .int .i64 0, .int .i64 0, .bool false]⟩]) := ⟨Env.addne (e := ⟨g11, 31, [.int .i64 0, .int .i64 0, .int .i64 0, .bool false]⟩) HE.out b11 (fun e' he => Nat.ne_of_lt (Nat.lt_of_lt_of_le (HL0.out e' he) l11))⟩
      have G11 : Hd (w.heap.size ≤ g11) := ⟨Nat.le_trans HBW.out.size l11⟩
      simp only [putAll, List.foldl_cons, List.foldl_nil, Act.put, List.setIfInBounds_toArray, List.set_cons_succ, List.set_cons_zero, List.drop_succ_cons, List.drop_zero, e30, e31, e11]
      generalize vs 25 = s25
      generalize vs 26 = s26
      generalize vs 27 = s27
      generalize vs 28 = s28
      generalize vs 29 = s29
      generalize vs 24 = s24
      clear hv hal hne hb HL0 HBW HLS e30 e31 e11 l11 b11
      refine wpList_st rfl rfl rfl rfl rfl (sto_M (HE.out.get 3 rfl)) ?_
      have HE' : Env (putL X3 g11 0 [.int .i64 0, .int .i64 0, .int .i64 0, .bool false]) [⟨w.heap.size, 26, [.int .i64 a.x, .int .i64 a.y, .int .i64 a.t, .bool a.f]⟩, ⟨w.heap.size + 1, 26, [.int .i64 b.x, .int .i64 b.y, .int .i64 b.t, .bool b.f]⟩, ⟨g9, 31, [.int .i64 0, .int .i64 0, .int .i64 0, .bool false]⟩, ⟨g11, 31, [.int .i64 0, .int .i64 0, .int .i64 0, .bool false]⟩] := HE.out.putF 3 rfl rfl
      have HB' := putL_below (show w.heap.size ≤ g11 from G11.out) [.int .i64 0, .int .i64 0, .int .i64 0, .bool false] _ 0 HB.out
      generalize putL X3 g11 0 [.int .i64 0, .int .i64 0, .int .i64 0, .bool false] = X4 at *
      replace HE := Hd.mk HE'
      replace HB := Hd.mk HB'
      clear HE' HB'
      go_upto_region 3 with fail
      refine wp_region_vd 9 [32, 33, 34, 35, 36, 37, 38, 39, 40] [0, 1, 3, 4, 5, 8] [] 84 [.int .i64 0, .int .i64 0] [isV (.int .i64 Wd), isV (.int .i64 Ht), isV (.bool true), isV (.bool true), isV (.int .i64 Wd), isV (.int .i64 Ht), isV (.agg #[.int .i64 a.x, .int .i64 a.y, .int .i64 a.t, .bool a.f]), isV (.bool false), isV (.bool false)] (by rfl) alloc_Z ?_ ?_
      · intro qi qh qA aa wx hb hs hd
        match qi, qh, qA with
        | 0, _, _ => exact .inl ⟨rfl, op_mv rfl (hs 0 rfl)⟩
        | 1, _, _ => exact .inl ⟨rfl, op_mv rfl (hs 1 rfl)⟩
        | 2, _, _ => exact .inl ⟨rfl, wp_b (bool_eq HS.out) (op_call2 rfl rfl Try.call25 (by rw [(show aa.eval (.tmp 32) = .int .i64 Wd from (hd 0 rfl)), (show aa.eval (.tmp 33) = .int .i64 Ht from (hd 1 rfl))]; exact rSize_got Wd Ht _))⟩
        | 3, _, _ => exact .inl ⟨rfl, op_mv rfl (hd 2 rfl)⟩
        | 4, _, _ => exact .inl ⟨⟨rfl, .inl (hd 3 rfl)⟩, op_mv rfl (hs 0 rfl)⟩
        | 5, _, _ => exact .inl ⟨⟨rfl, .inl (hd 3 rfl)⟩, op_mv rfl (hs 1 rfl)⟩
        | 6, _, _ => exact .inl ⟨⟨rfl, .inl (hd 3 rfl)⟩, op_ldN rfl rfl (hs 6 rfl) ((HE.out.to hb).get 0 rfl)⟩
        | 7, _, _ => exact .inl ⟨⟨rfl, .inl (hd 3 rfl)⟩, wp_b (bool_eq FA.out) (op_call3 rfl rfl Try.call19 (by rw [(show aa.eval (.tmp 36) = .int .i64 Wd from (hd 4 rfl)), (show aa.eval (.tmp 37) = .int .i64 Ht from (hd 5 rfl)), (show aa.eval (.tmp 38) = .agg #[.int .i64 a.x, .int .i64 a.y, .int .i64 a.t, .bool a.f] from (hd 6 rfl))]; exact Fits_got Wd Ht a.x a.y a.t a.f _))⟩
        | 8, _, _ => exact .inl ⟨rfl, ⟨_, op_pickT rfl (hd 3 rfl) (hd 7 rfl), rfl⟩⟩
        | qi + 9, h, _ => omega
      · intro vs X5 hb hv hal hne
        have HL0 := Hd.mk (HE.out.lt)
        have HBW := HB
        replace HB := Hd.mk (bel_then HB.out hb)
        replace HE : Hd (Env X5 [⟨w.heap.size, 26, [.int .i64 a.x, .int .i64 a.y, .int .i64 a.t, .bool a.f]⟩, ⟨w.heap.size + 1, 26, [.int .i64 b.x, .int .i64 b.y, .int .i64 b.t, .bool b.f]⟩, ⟨g9, 31, [.int .i64 0, .int .i64 0, .int .i64 0, .bool false]⟩, ⟨g11, 31, [.int .i64 0, .int .i64 0, .int .i64 0, .bool false]⟩]) := ⟨HE.out.to hb⟩
        have HLS := HL0
        have e40 : vs 40 = .bool false := hv 8 (by decide) rfl
        simp only [putAll, List.foldl_cons, List.foldl_nil, Act.put, List.setIfInBounds_toArray, List.set_cons_succ, List.set_cons_zero, List.drop_succ_cons, List.drop_zero, e40]
        generalize vs 32 = s32
        generalize vs 33 = s33
        generalize vs 34 = s34
        generalize vs 35 = s35
        generalize vs 36 = s36
        generalize vs 37 = s37
        generalize vs 38 = s38
        generalize vs 39 = s39
        clear hv hal hne hb HL0 HBW HLS e40
        go_upto_region 4 with fail
        refine wp_region_vd 2 [41, 42] [0, 1] [] 84 [.int .i64 0, .int .i64 0] [isV (.bool false), isV (.bool true)] (by rfl) alloc_Z ?_ ?_
        · intro qi qh qA aa wx hb hs hd
          match qi, qh, qA with
          | 0, _, _ => exact .inl ⟨rfl, op_mv rfl (hs 13 rfl)⟩
          | 1, _, _ => exact .inl ⟨rfl, ⟨_, op_not rfl (hd 0 rfl), rfl⟩⟩
          | qi + 2, h, _ => omega
        · intro vs X6 hb hv hal hne
          have HL0 := Hd.mk (HE.out.lt)
          have HBW := HB
          replace HB := Hd.mk (bel_then HB.out hb)
          replace HE : Hd (Env X6 [⟨w.heap.size, 26, [.int .i64 a.x, .int .i64 a.y, .int .i64 a.t, .bool a.f]⟩, ⟨w.heap.size + 1, 26, [.int .i64 b.x, .int .i64 b.y, .int .i64 b.t, .bool b.f]⟩, ⟨g9, 31, [.int .i64 0, .int .i64 0, .int .i64 0, .bool false]⟩, ⟨g11, 31, [.int .i64 0, .int .i64 0, .int .i64 0, .bool false]⟩]) := ⟨HE.out.to hb⟩
          have HLS := HL0
          have e42 : vs 42 = .bool true := hv 1 (by decide) rfl
          simp only [putAll, List.foldl_cons, List.foldl_nil, Act.put, List.setIfInBounds_toArray, List.set_cons_succ, List.set_cons_zero, List.drop_succ_cons, List.drop_zero, e42]
          generalize vs 41 = s41
          clear hv hal hne hb HL0 HBW HLS e42
          go_upto_region 5 with fail
          refine wp_region_vd 19 [43, 44, 45, 46, 47, 48, 49, 50, 51, 52, 53, 54, 55, 56, 57, 58, 59, 60, 61] [1, 2, 3, 4, 5, 6, 7, 9, 10, 11, 12, 13, 14, 15, 16, 18] [] 84 [.int .i64 0, .int .i64 0] [isV (.agg #[.int .i64 0, .int .i64 0, .int .i64 0, .bool false]), isV (.agg #[.int .i64 0, .int .i64 0, .int .i64 0, .bool false]), isV (.bool true), isV (.bool true), isV (.int .i64 2), isV (.bool true), isV (.bool true), isV (.bool true), isV (.agg #[.int .i64 0, .int .i64 0, .int .i64 0, .bool false]), isV (.agg #[.int .i64 0, .int .i64 0, .int .i64 0, .bool false]), isV (.bool true), isV (.bool true), isV (.bool true), isV (.int .i64 2), isV (.bool true), isV (.bool true), isV (.bool true), isV (.bool true), isV (.bool true)] (by rfl) alloc_Z ?_ ?_
          · intro qi qh qA aa wx hb hs hd
            match qi, qh, qA with
            | 0, _, _ => exact .inl ⟨rfl, op_ldM rfl rfl (hs 9 rfl) ((HE.out.to hb).get 2 rfl)⟩
            | 1, _, _ => exact .inl ⟨rfl, ⟨_, op_b0M rfl, rfl⟩⟩
            | 2, _, _ => exact .inl ⟨rfl, ⟨_, op_eqlM rfl (hd 0 rfl) (hd 1 rfl), rfl⟩⟩
            | 3, _, _ => exact .inl ⟨rfl, op_mv rfl (hd 2 rfl)⟩
            | 4, _, _ => exact .inl ⟨⟨rfl, .inl (hd 3 rfl)⟩, op_mv rfl (hs 10 rfl)⟩
            | 5, _, _ => exact .inl ⟨⟨rfl, .inl (hd 3 rfl)⟩, pure_b (bool_eq (by decide)) (⟨_, op_eqlE rfl (hd 4 rfl) rfl, rfl⟩)⟩
            | 6, _, _ => exact .inl ⟨rfl, ⟨_, op_pickT rfl (hd 3 rfl) (hd 5 rfl), rfl⟩⟩
            | 7, _, _ => exact .inl ⟨rfl, op_mv rfl (hd 6 rfl)⟩
            | 8, _, _ => exact .inl ⟨⟨rfl, .inl (hd 7 rfl)⟩, op_ldM rfl rfl (hs 11 rfl) ((HE.out.to hb).get 3 rfl)⟩
            | 9, _, _ => exact .inl ⟨⟨rfl, .inl (hd 7 rfl)⟩, ⟨_, op_b0M rfl, rfl⟩⟩
            | 10, _, _ => exact .inl ⟨⟨rfl, .inl (hd 7 rfl)⟩, ⟨_, op_eqlM rfl (hd 8 rfl) (hd 9 rfl), rfl⟩⟩
            | 11, _, _ => exact .inl ⟨rfl, ⟨_, op_pickT rfl (hd 7 rfl) (hd 10 rfl), rfl⟩⟩
            | 12, _, _ => exact .inl ⟨rfl, op_mv rfl (hd 11 rfl)⟩
            | 13, _, _ => exact .inl ⟨⟨rfl, .inl (hd 12 rfl)⟩, op_mv rfl (hs 12 rfl)⟩
            | 14, _, _ => exact .inl ⟨⟨rfl, .inl (hd 12 rfl)⟩, pure_b (bool_eq (by decide)) (⟨_, op_eqlE rfl (hd 13 rfl) rfl, rfl⟩)⟩
            | 15, _, _ => exact .inl ⟨rfl, ⟨_, op_pickT rfl (hd 12 rfl) (hd 14 rfl), rfl⟩⟩
            | 16, _, _ => exact .inl ⟨rfl, op_mv rfl (hd 15 rfl)⟩
            | 17, _, _ => exact .inl ⟨⟨rfl, .inl (hd 16 rfl)⟩, op_call0 rfl rfl Try.call18 (awake_got _)⟩
            | 18, _, _ => exact .inl ⟨rfl, ⟨_, op_pickT rfl (hd 16 rfl) (hd 17 rfl), rfl⟩⟩
            | qi + 19, h, _ => omega
          · intro vs X7 hb hv hal hne
            have HL0 := Hd.mk (HE.out.lt)
            have HBW := HB
            replace HB := Hd.mk (bel_then HB.out hb)
            replace HE : Hd (Env X7 [⟨w.heap.size, 26, [.int .i64 a.x, .int .i64 a.y, .int .i64 a.t, .bool a.f]⟩, ⟨w.heap.size + 1, 26, [.int .i64 b.x, .int .i64 b.y, .int .i64 b.t, .bool b.f]⟩, ⟨g9, 31, [.int .i64 0, .int .i64 0, .int .i64 0, .bool false]⟩, ⟨g11, 31, [.int .i64 0, .int .i64 0, .int .i64 0, .bool false]⟩]) := ⟨HE.out.to hb⟩
            have HLS := HL0
            have e61 : vs 61 = .bool true := hv 18 (by decide) rfl
            simp only [putAll, List.foldl_cons, List.foldl_nil, Act.put, List.setIfInBounds_toArray, List.set_cons_succ, List.set_cons_zero, List.drop_succ_cons, List.drop_zero, e61]
            generalize vs 43 = s43
            generalize vs 44 = s44
            generalize vs 45 = s45
            generalize vs 46 = s46
            generalize vs 47 = s47
            generalize vs 48 = s48
            generalize vs 49 = s49
            generalize vs 50 = s50
            generalize vs 51 = s51
            generalize vs 52 = s52
            generalize vs 53 = s53
            generalize vs 54 = s54
            generalize vs 55 = s55
            generalize vs 56 = s56
            generalize vs 57 = s57
            generalize vs 58 = s58
            generalize vs 59 = s59
            generalize vs 60 = s60
            clear hv hal hne hb HL0 HBW HLS e61
            go_wp2_with fail
            go_ret
            exact ⟨_, rfl, HB.out, rfl⟩
set_option maxRecDepth 100000 in
set_option maxHeartbeats 1000000 in
theorem After_b (Wd Ht : Int) (a b : Mv) (hs : sizeB Wd Ht = true) (ha : alB Wd Ht a.x a.y a.t = true) (hb2 : alB Wd Ht b.x b.y b.t = false) (w : World) :
    Calls Try.prog 4 #[.int .i64 Wd, .int .i64 Ht, .agg #[.int .i64 a.x, .int .i64 a.y, .int .i64 a.t, .bool a.f], .agg #[.int .i64 b.x, .int .i64 b.y, .int .i64 b.t, .bool b.f]] w (Got w (isV (.bool true)).p) := by
  have HNA : Hd ((sizeB Wd Ht && alB Wd Ht a.x a.y a.t && alB Wd Ht b.x b.y b.t) = false) := ⟨by rw [hs, ha, hb2]; rfl⟩
  have HA := Hd.mk (al_of (f := a.f) hs ha)
  have HS := Hd.mk hs
  have FA := Hd.mk ha
  have FB := Hd.mk hb2
  clear hs ha hb2
  go_enter Try.func4, Try.ntmps4
  go_upto_region 1 with fail
  obtain ⟨W0, hW0⟩ : ∃ W : World, W = (w.alloc (.cells #[.int .i64 a.x, .int .i64 a.y, .int .i64 a.t, .bool a.f] 26)).alloc (.cells #[.int .i64 b.x, .int .i64 b.y, .int .i64 b.t, .bool b.f] 26) := ⟨_, rfl⟩
  rw [← hW0]
  obtain ⟨he, hb⟩ := env_two hW0
  have HE := Hd.mk he
  have HB := Hd.mk hb
  clear he hb hW0
  refine wp_region_vs 11 [15, 16, 17, 18, 19, 20, 21, 14, 22, 23, 9] [0, 1, 7, 8, 9] [10] 31 [.int .i64 0, .int .i64 0, .int .i64 0, .bool false] [isV (.int .i64 Wd), isV (.int .i64 Ht), isV (.agg #[.int .i64 a.x, .int .i64 a.y, .int .i64 a.t, .bool a.f]), isV (.agg #[.int .i64 a.x, .int .i64 a.y, .int .i64 a.t, .bool a.f]), isV (.agg #[.int .i64 b.x, .int .i64 b.y, .int .i64 b.t, .bool b.f]), isV (.agg #[.int .i64 b.x, .int .i64 b.y, .int .i64 b.t, .bool b.f]), isP (isV (.agg #[.int .i64 0, .int .i64 0, .int .i64 0, .bool false])) (isV (.int .i64 2)), isP (isV (.agg #[.int .i64 0, .int .i64 0, .int .i64 0, .bool false])) (isV (.int .i64 2)), isV (.agg #[.int .i64 0, .int .i64 0, .int .i64 0, .bool false]), isV (.int .i64 2), SP.any] (by kernel_rfl) (by kernel_rfl) (by kernel_rfl) (by rfl) alloc_M (fun d v c a w h => by cases d <;> exact h) ?_ ?_
  · intro qi qh qA aa wx hb hs hd
    match qi, qh, qA with
    | 0, _, _ => exact op_mv rfl (hs 0 rfl)
    | 1, _, _ => exact op_mv rfl (hs 1 rfl)
    | 2, _, _ => exact op_ldN rfl rfl (hs 6 rfl) ((HE.out.to hb).get 0 rfl)
    | 3, _, _ => exact op_call1 rfl rfl Try.call14 (by rw [(show aa.eval (.tmp 17) = .agg #[.int .i64 a.x, .int .i64 a.y, .int .i64 a.t, .bool a.f] from (hd 2 rfl))]; exact move_got a.x a.y a.t a.f _)
    | 4, _, _ => exact op_ldN rfl rfl (hs 7 rfl) ((HE.out.to hb).get 1 rfl)
    | 5, _, _ => exact op_call1 rfl rfl Try.call14 (by rw [(show aa.eval (.tmp 19) = .agg #[.int .i64 b.x, .int .i64 b.y, .int .i64 b.t, .bool b.f] from (hd 4 rfl))]; exact move_got b.x b.y b.t b.f _)
    | 6, _, _ => exact op_call4 rfl rfl Try.call23 (by rw [show aa.eval (.tmp 15) = .int .i64 Wd from (hd 0 rfl), show aa.eval (.tmp 16) = .int .i64 Ht from (hd 1 rfl), show aa.eval (.tmp 18) = .agg #[.int .i64 a.x, .int .i64 a.y, .int .i64 a.t, .bool a.f] from (hd 3 rfl), show aa.eval (.tmp 20) = .agg #[.int .i64 b.x, .int .i64 b.y, .int .i64 b.t, .bool b.f] from (hd 5 rfl)]; exact After_no Wd Ht a.x a.y a.t b.x b.y b.t a.f b.f HNA.out _)
    | 7, _, _ => exact op_mv rfl (hd 6 rfl)
    | 8, _, _ => exact op_fst rfl (hd 7 rfl)
    | 9, _, _ => exact op_snd rfl (hd 7 rfl)
    | 10, _, h => cases h
    | qi + 11, h, _ => omega
  · intro vs X1 hb hv hal hne
    have HL0 := Hd.mk (HE.out.lt)
    have HBW := HB
    replace HB := Hd.mk (bel_then HB.out hb)
    replace HE : Hd (Env X1 [⟨w.heap.size, 26, [.int .i64 a.x, .int .i64 a.y, .int .i64 a.t, .bool a.f]⟩, ⟨w.heap.size + 1, 26, [.int .i64 b.x, .int .i64 b.y, .int .i64 b.t, .bool b.f]⟩]) := ⟨HE.out.to hb⟩
    have HLS := HL0
    have e22 : vs 22 = .agg #[.int .i64 0, .int .i64 0, .int .i64 0, .bool false] := hv 8 (by decide) rfl
    have e23 : vs 23 = .int .i64 2 := hv 9 (by decide) rfl
    obtain ⟨g9, e9, l9, b9⟩ : ∃ g, vs 9 = .pointer (some ⟨g, 0, none⟩) ∧ _ := hal 10 rfl
    replace HE : Hd (Env X1 [⟨w.heap.size, 26, [.int .i64 a.x, .int .i64 a.y, .int .i64 a.t, .bool a.f]⟩, ⟨w.heap.size + 1, 26, [.int .i64 b.x, .int .i64 b.y, .int .i64 b.t, .bool b.f]⟩, ⟨g9, 31, [.int .i64 0, .int .i64 0, .int .i64 0, .bool false]⟩]) := ⟨Env.addne (e := ⟨g9, 31, [.int .i64 0, .int .i64 0, .int .i64 0, .bool false]⟩) HE.out b9 (fun e' he => Nat.ne_of_lt (Nat.lt_of_lt_of_le (HL0.out e' he) l9))⟩
    have G9 : Hd (w.heap.size ≤ g9) := ⟨Nat.le_trans HBW.out.size l9⟩
    simp only [putAll, List.foldl_cons, List.foldl_nil, Act.put, List.setIfInBounds_toArray, List.set_cons_succ, List.set_cons_zero, List.drop_succ_cons, List.drop_zero, e22, e23, e9]
    generalize vs 15 = s15
    generalize vs 16 = s16
    generalize vs 17 = s17
    generalize vs 18 = s18
    generalize vs 19 = s19
    generalize vs 20 = s20
    generalize vs 21 = s21
    generalize vs 14 = s14
    clear hv hal hne hb HL0 HBW HLS e22 e23 e9 l9 b9
    refine wpList_st rfl rfl rfl rfl rfl (sto_M (HE.out.get 2 rfl)) ?_
    have HE' : Env (putL X1 g9 0 [.int .i64 0, .int .i64 0, .int .i64 0, .bool false]) [⟨w.heap.size, 26, [.int .i64 a.x, .int .i64 a.y, .int .i64 a.t, .bool a.f]⟩, ⟨w.heap.size + 1, 26, [.int .i64 b.x, .int .i64 b.y, .int .i64 b.t, .bool b.f]⟩, ⟨g9, 31, [.int .i64 0, .int .i64 0, .int .i64 0, .bool false]⟩] := HE.out.putF 2 rfl rfl
    have HB' := putL_below (show w.heap.size ≤ g9 from G9.out) [.int .i64 0, .int .i64 0, .int .i64 0, .bool false] _ 0 HB.out
    generalize putL X1 g9 0 [.int .i64 0, .int .i64 0, .int .i64 0, .bool false] = X2 at *
    replace HE := Hd.mk HE'
    replace HB := Hd.mk HB'
    clear HE' HB'
    go_upto_region 2 with fail
    refine wp_region_vd 9 [25, 26, 27, 28, 29, 24, 30, 31, 11] [0, 1, 5, 6, 7] [8] 31 [.int .i64 0, .int .i64 0, .int .i64 0, .bool false] [isV (.int .i64 Wd), isV (.int .i64 Ht), isV (.agg #[.int .i64 a.x, .int .i64 a.y, .int .i64 a.t, .bool a.f]), isV (.agg #[.int .i64 a.x, .int .i64 a.y, .int .i64 a.t, .bool a.f]), isP (isV (.agg #[.int .i64 ((invM Wd Ht a).x), .int .i64 ((invM Wd Ht a).y), .int .i64 ((invM Wd Ht a).t), .bool ((invM Wd Ht a).f)])) (isV (.int .i64 0)), isP (isV (.agg #[.int .i64 ((invM Wd Ht a).x), .int .i64 ((invM Wd Ht a).y), .int .i64 ((invM Wd Ht a).t), .bool ((invM Wd Ht a).f)])) (isV (.int .i64 0)), isV (.agg #[.int .i64 ((invM Wd Ht a).x), .int .i64 ((invM Wd Ht a).y), .int .i64 ((invM Wd Ht a).t), .bool ((invM Wd Ht a).f)]), isV (.int .i64 0), SP.any] (by rfl) alloc_M ?_ ?_
    · intro qi qh qA aa wx hb hs hd
      match qi, qh, qA with
      | 0, _, _ => exact .inl ⟨rfl, op_mv rfl (hs 0 rfl)⟩
      | 1, _, _ => exact .inl ⟨rfl, op_mv rfl (hs 1 rfl)⟩
      | 2, _, _ => exact .inl ⟨rfl, op_ldN rfl rfl (hs 6 rfl) ((HE.out.to hb).get 0 rfl)⟩
      | 3, _, _ => exact .inl ⟨rfl, op_call1 rfl rfl Try.call14 (by rw [(show aa.eval (.tmp 27) = .agg #[.int .i64 a.x, .int .i64 a.y, .int .i64 a.t, .bool a.f] from (hd 2 rfl))]; exact move_got a.x a.y a.t a.f _)⟩
      | 4, _, _ => exact .inl ⟨rfl, op_call3 rfl rfl Try.call24 (by rw [show aa.eval (.tmp 25) = .int .i64 Wd from (hd 0 rfl), show aa.eval (.tmp 26) = .int .i64 Ht from (hd 1 rfl), show aa.eval (.tmp 28) = .agg #[.int .i64 a.x, .int .i64 a.y, .int .i64 a.t, .bool a.f] from (hd 3 rfl)]; exact Inverse_m HA.out _)⟩
      | 5, _, _ => exact .inl ⟨rfl, op_mv rfl (hd 4 rfl)⟩
      | 6, _, _ => exact .inl ⟨rfl, op_fst rfl (hd 5 rfl)⟩
      | 7, _, _ => exact .inl ⟨rfl, op_snd rfl (hd 5 rfl)⟩
      | 8, _, h => cases h
      | qi + 9, h, _ => omega
    · intro vs X3 hb hv hal hne
      have HL0 := Hd.mk (HE.out.lt)
      have HBW := HB
      replace HB := Hd.mk (bel_then HB.out hb)
      replace HE : Hd (Env X3 [⟨w.heap.size, 26, [.int .i64 a.x, .int .i64 a.y, .int .i64 a.t, .bool a.f]⟩, ⟨w.heap.size + 1, 26, [.int .i64 b.x, .int .i64 b.y, .int .i64 b.t, .bool b.f]⟩, ⟨g9, 31, [.int .i64 0, .int .i64 0, .int .i64 0, .bool false]⟩]) := ⟨HE.out.to hb⟩
      have HLS := HL0
      have e30 : vs 30 = .agg #[.int .i64 ((invM Wd Ht a).x), .int .i64 ((invM Wd Ht a).y), .int .i64 ((invM Wd Ht a).t), .bool ((invM Wd Ht a).f)] := hv 6 (by decide) rfl
      have e31 : vs 31 = .int .i64 0 := hv 7 (by decide) rfl
      obtain ⟨g11, e11, l11, b11⟩ : ∃ g, vs 11 = .pointer (some ⟨g, 0, none⟩) ∧ _ := hal 8 rfl
      replace HE : Hd (Env X3 [⟨w.heap.size, 26, [.int .i64 a.x, .int .i64 a.y, .int .i64 a.t, .bool a.f]⟩, ⟨w.heap.size + 1, 26, [.int .i64 b.x, .int .i64 b.y, .int .i64 b.t, .bool b.f]⟩, ⟨g9, 31, [.int .i64 0, .int .i64 0, .int .i64 0, .bool false]⟩, ⟨g11, 31, [.int .i64 0, .int .i64 0, .int .i64 0, .bool false]⟩]) := ⟨Env.addne (e := ⟨g11, 31, [.int .i64 0, .int .i64 0, .int .i64 0, .bool false]⟩) HE.out b11 (fun e' he => Nat.ne_of_lt (Nat.lt_of_lt_of_le (HL0.out e' he) l11))⟩
      have G11 : Hd (w.heap.size ≤ g11) := ⟨Nat.le_trans HBW.out.size l11⟩
      simp only [putAll, List.foldl_cons, List.foldl_nil, Act.put, List.setIfInBounds_toArray, List.set_cons_succ, List.set_cons_zero, List.drop_succ_cons, List.drop_zero, e30, e31, e11]
      generalize vs 25 = s25
      generalize vs 26 = s26
      generalize vs 27 = s27
      generalize vs 28 = s28
      generalize vs 29 = s29
      generalize vs 24 = s24
      clear hv hal hne hb HL0 HBW HLS e30 e31 e11 l11 b11
      refine wpList_st rfl rfl rfl rfl rfl (sto_M (HE.out.get 3 rfl)) ?_
      have HE' : Env (putL X3 g11 0 [.int .i64 ((invM Wd Ht a).x), .int .i64 ((invM Wd Ht a).y), .int .i64 ((invM Wd Ht a).t), .bool ((invM Wd Ht a).f)]) [⟨w.heap.size, 26, [.int .i64 a.x, .int .i64 a.y, .int .i64 a.t, .bool a.f]⟩, ⟨w.heap.size + 1, 26, [.int .i64 b.x, .int .i64 b.y, .int .i64 b.t, .bool b.f]⟩, ⟨g9, 31, [.int .i64 0, .int .i64 0, .int .i64 0, .bool false]⟩, ⟨g11, 31, [.int .i64 ((invM Wd Ht a).x), .int .i64 ((invM Wd Ht a).y), .int .i64 ((invM Wd Ht a).t), .bool ((invM Wd Ht a).f)]⟩] := HE.out.putF 3 rfl rfl
      have HB' := putL_below (show w.heap.size ≤ g11 from G11.out) [.int .i64 ((invM Wd Ht a).x), .int .i64 ((invM Wd Ht a).y), .int .i64 ((invM Wd Ht a).t), .bool ((invM Wd Ht a).f)] _ 0 HB.out
      generalize putL X3 g11 0 [.int .i64 ((invM Wd Ht a).x), .int .i64 ((invM Wd Ht a).y), .int .i64 ((invM Wd Ht a).t), .bool ((invM Wd Ht a).f)] = X4 at *
      replace HE := Hd.mk HE'
      replace HB := Hd.mk HB'
      clear HE' HB'
      go_upto_region 3 with fail
      refine wp_region_vd 9 [32, 33, 34, 35, 36, 37, 38, 39, 40] [0, 1, 3, 4, 5, 8] [] 84 [.int .i64 0, .int .i64 0] [isV (.int .i64 Wd), isV (.int .i64 Ht), isV (.bool true), isV (.bool true), isV (.int .i64 Wd), isV (.int .i64 Ht), isV (.agg #[.int .i64 a.x, .int .i64 a.y, .int .i64 a.t, .bool a.f]), isV (.bool true), isV (.bool true)] (by rfl) alloc_Z ?_ ?_
      · intro qi qh qA aa wx hb hs hd
        match qi, qh, qA with
        | 0, _, _ => exact .inl ⟨rfl, op_mv rfl (hs 0 rfl)⟩
        | 1, _, _ => exact .inl ⟨rfl, op_mv rfl (hs 1 rfl)⟩
        | 2, _, _ => exact .inl ⟨rfl, wp_b (bool_eq HS.out) (op_call2 rfl rfl Try.call25 (by rw [(show aa.eval (.tmp 32) = .int .i64 Wd from (hd 0 rfl)), (show aa.eval (.tmp 33) = .int .i64 Ht from (hd 1 rfl))]; exact rSize_got Wd Ht _))⟩
        | 3, _, _ => exact .inl ⟨rfl, op_mv rfl (hd 2 rfl)⟩
        | 4, _, _ => exact .inl ⟨⟨rfl, .inl (hd 3 rfl)⟩, op_mv rfl (hs 0 rfl)⟩
        | 5, _, _ => exact .inl ⟨⟨rfl, .inl (hd 3 rfl)⟩, op_mv rfl (hs 1 rfl)⟩
        | 6, _, _ => exact .inl ⟨⟨rfl, .inl (hd 3 rfl)⟩, op_ldN rfl rfl (hs 6 rfl) ((HE.out.to hb).get 0 rfl)⟩
        | 7, _, _ => exact .inl ⟨⟨rfl, .inl (hd 3 rfl)⟩, wp_b (bool_eq FA.out) (op_call3 rfl rfl Try.call19 (by rw [(show aa.eval (.tmp 36) = .int .i64 Wd from (hd 4 rfl)), (show aa.eval (.tmp 37) = .int .i64 Ht from (hd 5 rfl)), (show aa.eval (.tmp 38) = .agg #[.int .i64 a.x, .int .i64 a.y, .int .i64 a.t, .bool a.f] from (hd 6 rfl))]; exact Fits_got Wd Ht a.x a.y a.t a.f _))⟩
        | 8, _, _ => exact .inl ⟨rfl, ⟨_, op_pickT rfl (hd 3 rfl) (hd 7 rfl), rfl⟩⟩
        | qi + 9, h, _ => omega
      · intro vs X5 hb hv hal hne
        have HL0 := Hd.mk (HE.out.lt)
        have HBW := HB
        replace HB := Hd.mk (bel_then HB.out hb)
        replace HE : Hd (Env X5 [⟨w.heap.size, 26, [.int .i64 a.x, .int .i64 a.y, .int .i64 a.t, .bool a.f]⟩, ⟨w.heap.size + 1, 26, [.int .i64 b.x, .int .i64 b.y, .int .i64 b.t, .bool b.f]⟩, ⟨g9, 31, [.int .i64 0, .int .i64 0, .int .i64 0, .bool false]⟩, ⟨g11, 31, [.int .i64 ((invM Wd Ht a).x), .int .i64 ((invM Wd Ht a).y), .int .i64 ((invM Wd Ht a).t), .bool ((invM Wd Ht a).f)]⟩]) := ⟨HE.out.to hb⟩
        have HLS := HL0
        have e40 : vs 40 = .bool true := hv 8 (by decide) rfl
        simp only [putAll, List.foldl_cons, List.foldl_nil, Act.put, List.setIfInBounds_toArray, List.set_cons_succ, List.set_cons_zero, List.drop_succ_cons, List.drop_zero, e40]
        generalize vs 32 = s32
        generalize vs 33 = s33
        generalize vs 34 = s34
        generalize vs 35 = s35
        generalize vs 36 = s36
        generalize vs 37 = s37
        generalize vs 38 = s38
        generalize vs 39 = s39
        clear hv hal hne hb HL0 HBW HLS e40
        go_upto_region 4 with fail
        refine wp_region_vd 2 [41, 42] [0, 1] [] 84 [.int .i64 0, .int .i64 0] [isV (.bool true), isV (.bool false)] (by rfl) alloc_Z ?_ ?_
        · intro qi qh qA aa wx hb hs hd
          match qi, qh, qA with
          | 0, _, _ => exact .inl ⟨rfl, op_mv rfl (hs 13 rfl)⟩
          | 1, _, _ => exact .inl ⟨rfl, ⟨_, op_not rfl (hd 0 rfl), rfl⟩⟩
          | qi + 2, h, _ => omega
        · intro vs X6 hb hv hal hne
          have HL0 := Hd.mk (HE.out.lt)
          have HBW := HB
          replace HB := Hd.mk (bel_then HB.out hb)
          replace HE : Hd (Env X6 [⟨w.heap.size, 26, [.int .i64 a.x, .int .i64 a.y, .int .i64 a.t, .bool a.f]⟩, ⟨w.heap.size + 1, 26, [.int .i64 b.x, .int .i64 b.y, .int .i64 b.t, .bool b.f]⟩, ⟨g9, 31, [.int .i64 0, .int .i64 0, .int .i64 0, .bool false]⟩, ⟨g11, 31, [.int .i64 ((invM Wd Ht a).x), .int .i64 ((invM Wd Ht a).y), .int .i64 ((invM Wd Ht a).t), .bool ((invM Wd Ht a).f)]⟩]) := ⟨HE.out.to hb⟩
          have HLS := HL0
          have e42 : vs 42 = .bool false := hv 1 (by decide) rfl
          simp only [putAll, List.foldl_cons, List.foldl_nil, Act.put, List.setIfInBounds_toArray, List.set_cons_succ, List.set_cons_zero, List.drop_succ_cons, List.drop_zero, e42]
          generalize vs 41 = s41
          clear hv hal hne hb HL0 HBW HLS e42
          go_upto_region 6 with fail
          refine wp_region_vg 11 [62, 63, 64, 65, 66, 67, 68, 69, 70, 71, 72] [2, 3, 6, 7, 8, 9, 10] [] 84 [.int .i64 0, .int .i64 0] [isV (.agg #[.int .i64 ((invM Wd Ht a).x), .int .i64 ((invM Wd Ht a).y), .int .i64 ((invM Wd Ht a).t), .bool ((invM Wd Ht a).f)]), isV (.agg #[.int .i64 ((invM Wd Ht a).x), .int .i64 ((invM Wd Ht a).y), .int .i64 ((invM Wd Ht a).t), .bool ((invM Wd Ht a).f)]), isV (.int .i64 Wd), isV (.int .i64 Ht), isV (.agg #[.int .i64 a.x, .int .i64 a.y, .int .i64 a.t, .bool a.f]), isV (.agg #[.int .i64 ((invM Wd Ht a).x), .int .i64 ((invM Wd Ht a).y), .int .i64 ((invM Wd Ht a).t), .bool ((invM Wd Ht a).f)]), isV (.bool false), isV (.bool false), isV (.int .i64 0), isV (.bool false), isV (.bool false)] (by kernel_rfl) (by kernel_rfl) (by kernel_rfl) (by rfl) alloc_Z (fun d v c a w h => by cases d <;> exact h) ?_ ?_
          · intro qi qh qA aa wx hb hs hd
            match qi, qh, qA with
            | 0, _, _ => exact .inl ⟨rfl, op_ldM rfl rfl (hs 11 rfl) ((HE.out.to hb).get 3 rfl)⟩
            | 1, _, _ => exact .inl ⟨rfl, op_call1 rfl rfl Try.call26 (by rw [(show aa.eval (.tmp 62) = .agg #[.int .i64 ((invM Wd Ht a).x), .int .i64 ((invM Wd Ht a).y), .int .i64 ((invM Wd Ht a).t), .bool ((invM Wd Ht a).f)] from (hd 0 rfl))]; exact ownMove_got ((invM Wd Ht a).x) ((invM Wd Ht a).y) ((invM Wd Ht a).t) ((invM Wd Ht a).f) _)⟩
            | 2, _, _ => exact .inl ⟨rfl, op_mv rfl (hs 0 rfl)⟩
            | 3, _, _ => exact .inl ⟨rfl, op_mv rfl (hs 1 rfl)⟩
            | 4, _, _ => exact .inl ⟨rfl, op_ldN rfl rfl (hs 6 rfl) ((HE.out.to hb).get 0 rfl)⟩
            | 5, _, _ => exact .inl ⟨rfl, op_call3 rfl rfl Try.call27 (by rw [show aa.eval (.tmp 64) = .int .i64 Wd from (hd 2 rfl), show aa.eval (.tmp 65) = .int .i64 Ht from (hd 3 rfl), show aa.eval (.tmp 66) = .agg #[.int .i64 a.x, .int .i64 a.y, .int .i64 a.t, .bool a.f] from (hd 4 rfl)]; exact rInv_i HA.out _)⟩
            | 6, _, _ => exact .inl ⟨rfl, ⟨_, op_neqN rfl (hd 1 rfl) (hd 5 rfl), rfl⟩⟩
            | 7, _, _ => exact .inl ⟨rfl, op_mv rfl (hd 6 rfl)⟩
            | 8, _, _ => exact .inl ⟨⟨rfl, .inl (hd 7 rfl)⟩, op_mv rfl (hs 12 rfl)⟩
            | 9, _, _ => exact .inl ⟨⟨rfl, .inl (hd 7 rfl)⟩, pure_b (bool_eq (by decide)) (⟨_, op_neqE rfl (hd 8 rfl) rfl, rfl⟩)⟩
            | 10, _, _ => exact .inl ⟨rfl, ⟨_, op_pickF rfl (hd 7 rfl) (hd 9 rfl), rfl⟩⟩
            | qi + 11, h, _ => omega
          · intro vs X7 hb hv hal hne
            have HL0 := Hd.mk (HE.out.lt)
            have HBW := HB
            replace HB := Hd.mk (bel_then HB.out hb)
            replace HE : Hd (Env X7 [⟨w.heap.size, 26, [.int .i64 a.x, .int .i64 a.y, .int .i64 a.t, .bool a.f]⟩, ⟨w.heap.size + 1, 26, [.int .i64 b.x, .int .i64 b.y, .int .i64 b.t, .bool b.f]⟩, ⟨g9, 31, [.int .i64 0, .int .i64 0, .int .i64 0, .bool false]⟩, ⟨g11, 31, [.int .i64 ((invM Wd Ht a).x), .int .i64 ((invM Wd Ht a).y), .int .i64 ((invM Wd Ht a).t), .bool ((invM Wd Ht a).f)]⟩]) := ⟨HE.out.to hb⟩
            have HLS := HL0
            have e72 : vs 72 = .bool false := hv 10 (by decide) rfl
            simp only [putAll, List.foldl_cons, List.foldl_nil, Act.put, List.setIfInBounds_toArray, List.set_cons_succ, List.set_cons_zero, List.drop_succ_cons, List.drop_zero, e72]
            generalize vs 62 = s62
            generalize vs 63 = s63
            generalize vs 64 = s64
            generalize vs 65 = s65
            generalize vs 66 = s66
            generalize vs 67 = s67
            generalize vs 68 = s68
            generalize vs 69 = s69
            generalize vs 70 = s70
            generalize vs 71 = s71
            clear hv hal hne hb HL0 HBW HLS e72
            go_upto_region 8 with fail
            refine wp_region_vd 5 [73, 74, 75, 76, 77] [0, 1, 4] [] 84 [.int .i64 0, .int .i64 0] [isV (.int .i64 Wd), isV (.int .i64 Ht), isV (.agg #[.int .i64 b.x, .int .i64 b.y, .int .i64 b.t, .bool b.f]), isV (.bool false), isV (.bool true)] (by rfl) alloc_Z ?_ ?_
            · intro qi qh qA aa wx hb hs hd
              match qi, qh, qA with
              | 0, _, _ => exact .inl ⟨rfl, op_mv rfl (hs 0 rfl)⟩
              | 1, _, _ => exact .inl ⟨rfl, op_mv rfl (hs 1 rfl)⟩
              | 2, _, _ => exact .inl ⟨rfl, op_ldN rfl rfl (hs 7 rfl) ((HE.out.to hb).get 1 rfl)⟩
              | 3, _, _ => exact .inl ⟨rfl, wp_b (bool_eq FB.out) (op_call3 rfl rfl Try.call19 (by rw [(show aa.eval (.tmp 73) = .int .i64 Wd from (hd 0 rfl)), (show aa.eval (.tmp 74) = .int .i64 Ht from (hd 1 rfl)), (show aa.eval (.tmp 75) = .agg #[.int .i64 b.x, .int .i64 b.y, .int .i64 b.t, .bool b.f] from (hd 2 rfl))]; exact Fits_got Wd Ht b.x b.y b.t b.f _))⟩
              | 4, _, _ => exact .inl ⟨rfl, ⟨_, op_not rfl (hd 3 rfl), rfl⟩⟩
              | qi + 5, h, _ => omega
            · intro vs X8 hb hv hal hne
              have HL0 := Hd.mk (HE.out.lt)
              have HBW := HB
              replace HB := Hd.mk (bel_then HB.out hb)
              replace HE : Hd (Env X8 [⟨w.heap.size, 26, [.int .i64 a.x, .int .i64 a.y, .int .i64 a.t, .bool a.f]⟩, ⟨w.heap.size + 1, 26, [.int .i64 b.x, .int .i64 b.y, .int .i64 b.t, .bool b.f]⟩, ⟨g9, 31, [.int .i64 0, .int .i64 0, .int .i64 0, .bool false]⟩, ⟨g11, 31, [.int .i64 ((invM Wd Ht a).x), .int .i64 ((invM Wd Ht a).y), .int .i64 ((invM Wd Ht a).t), .bool ((invM Wd Ht a).f)]⟩]) := ⟨HE.out.to hb⟩
              have HLS := HL0
              have e77 : vs 77 = .bool true := hv 4 (by decide) rfl
              simp only [putAll, List.foldl_cons, List.foldl_nil, Act.put, List.setIfInBounds_toArray, List.set_cons_succ, List.set_cons_zero, List.drop_succ_cons, List.drop_zero, e77]
              generalize vs 73 = s73
              generalize vs 74 = s74
              generalize vs 75 = s75
              generalize vs 76 = s76
              clear hv hal hne hb HL0 HBW HLS e77
              go_upto_region 9 with fail
              refine wp_region_vd 10 [78, 79, 80, 81, 82, 83, 84, 85, 86, 87] [1, 2, 3, 4, 5, 6, 7, 9] [] 84 [.int .i64 0, .int .i64 0] [isV (.agg #[.int .i64 0, .int .i64 0, .int .i64 0, .bool false]), isV (.agg #[.int .i64 0, .int .i64 0, .int .i64 0, .bool false]), isV (.bool true), isV (.bool true), isV (.int .i64 2), isV (.bool true), isV (.bool true), isV (.bool true), isV (.bool true), isV (.bool true)] (by rfl) alloc_Z ?_ ?_
              · intro qi qh qA aa wx hb hs hd
                match qi, qh, qA with
                | 0, _, _ => exact .inl ⟨rfl, op_ldM rfl rfl (hs 9 rfl) ((HE.out.to hb).get 2 rfl)⟩
                | 1, _, _ => exact .inl ⟨rfl, ⟨_, op_b0M rfl, rfl⟩⟩
                | 2, _, _ => exact .inl ⟨rfl, ⟨_, op_eqlM rfl (hd 0 rfl) (hd 1 rfl), rfl⟩⟩
                | 3, _, _ => exact .inl ⟨rfl, op_mv rfl (hd 2 rfl)⟩
                | 4, _, _ => exact .inl ⟨⟨rfl, .inl (hd 3 rfl)⟩, op_mv rfl (hs 10 rfl)⟩
                | 5, _, _ => exact .inl ⟨⟨rfl, .inl (hd 3 rfl)⟩, pure_b (bool_eq (by decide)) (⟨_, op_eqlE rfl (hd 4 rfl) rfl, rfl⟩)⟩
                | 6, _, _ => exact .inl ⟨rfl, ⟨_, op_pickT rfl (hd 3 rfl) (hd 5 rfl), rfl⟩⟩
                | 7, _, _ => exact .inl ⟨rfl, op_mv rfl (hd 6 rfl)⟩
                | 8, _, _ => exact .inl ⟨⟨rfl, .inl (hd 7 rfl)⟩, op_call0 rfl rfl Try.call18 (awake_got _)⟩
                | 9, _, _ => exact .inl ⟨rfl, ⟨_, op_pickT rfl (hd 7 rfl) (hd 8 rfl), rfl⟩⟩
                | qi + 10, h, _ => omega
              · intro vs X9 hb hv hal hne
                have HL0 := Hd.mk (HE.out.lt)
                have HBW := HB
                replace HB := Hd.mk (bel_then HB.out hb)
                replace HE : Hd (Env X9 [⟨w.heap.size, 26, [.int .i64 a.x, .int .i64 a.y, .int .i64 a.t, .bool a.f]⟩, ⟨w.heap.size + 1, 26, [.int .i64 b.x, .int .i64 b.y, .int .i64 b.t, .bool b.f]⟩, ⟨g9, 31, [.int .i64 0, .int .i64 0, .int .i64 0, .bool false]⟩, ⟨g11, 31, [.int .i64 ((invM Wd Ht a).x), .int .i64 ((invM Wd Ht a).y), .int .i64 ((invM Wd Ht a).t), .bool ((invM Wd Ht a).f)]⟩]) := ⟨HE.out.to hb⟩
                have HLS := HL0
                have e87 : vs 87 = .bool true := hv 9 (by decide) rfl
                simp only [putAll, List.foldl_cons, List.foldl_nil, Act.put, List.setIfInBounds_toArray, List.set_cons_succ, List.set_cons_zero, List.drop_succ_cons, List.drop_zero, e87]
                generalize vs 78 = s78
                generalize vs 79 = s79
                generalize vs 80 = s80
                generalize vs 81 = s81
                generalize vs 82 = s82
                generalize vs 83 = s83
                generalize vs 84 = s84
                generalize vs 85 = s85
                generalize vs 86 = s86
                clear hv hal hne hb HL0 HBW HLS e87
                go_wp2_with fail
                go_ret
                exact ⟨_, rfl, HB.out, rfl⟩
set_option maxRecDepth 100000 in
set_option maxHeartbeats 1000000 in
theorem After_y (Wd Ht : Int) (a b : Mv) (hs : sizeB Wd Ht = true) (ha : alB Wd Ht a.x a.y a.t = true) (hb2 : alB Wd Ht b.x b.y b.t = true) (w : World) :
    Calls Try.prog 4 #[.int .i64 Wd, .int .i64 Ht, .agg #[.int .i64 a.x, .int .i64 a.y, .int .i64 a.t, .bool a.f], .agg #[.int .i64 b.x, .int .i64 b.y, .int .i64 b.t, .bool b.f]] w (Got w (isV (.bool true)).p) := by
  have HA := Hd.mk (al_of (f := a.f) hs ha)
  have HB2 := Hd.mk (al_of (f := b.f) hs hb2)
  have HS := Hd.mk hs
  have FA := Hd.mk ha
  have FB := Hd.mk hb2
  clear hs ha hb2
  go_enter Try.func4, Try.ntmps4
  go_upto_region 1 with fail
  obtain ⟨W0, hW0⟩ : ∃ W : World, W = (w.alloc (.cells #[.int .i64 a.x, .int .i64 a.y, .int .i64 a.t, .bool a.f] 26)).alloc (.cells #[.int .i64 b.x, .int .i64 b.y, .int .i64 b.t, .bool b.f] 26) := ⟨_, rfl⟩
  rw [← hW0]
  obtain ⟨he, hb⟩ := env_two hW0
  have HE := Hd.mk he
  have HB := Hd.mk hb
  clear he hb hW0
  refine wp_region_vs 11 [15, 16, 17, 18, 19, 20, 21, 14, 22, 23, 9] [0, 1, 7, 8, 9] [10] 31 [.int .i64 0, .int .i64 0, .int .i64 0, .bool false] [isV (.int .i64 Wd), isV (.int .i64 Ht), isV (.agg #[.int .i64 a.x, .int .i64 a.y, .int .i64 a.t, .bool a.f]), isV (.agg #[.int .i64 a.x, .int .i64 a.y, .int .i64 a.t, .bool a.f]), isV (.agg #[.int .i64 b.x, .int .i64 b.y, .int .i64 b.t, .bool b.f]), isV (.agg #[.int .i64 b.x, .int .i64 b.y, .int .i64 b.t, .bool b.f]), isP (isV (.agg #[.int .i64 ((aftM Wd Ht a b).x), .int .i64 ((aftM Wd Ht a b).y), .int .i64 ((aftM Wd Ht a b).t), .bool ((aftM Wd Ht a b).f)])) (isV (.int .i64 0)), isP (isV (.agg #[.int .i64 ((aftM Wd Ht a b).x), .int .i64 ((aftM Wd Ht a b).y), .int .i64 ((aftM Wd Ht a b).t), .bool ((aftM Wd Ht a b).f)])) (isV (.int .i64 0)), isV (.agg #[.int .i64 ((aftM Wd Ht a b).x), .int .i64 ((aftM Wd Ht a b).y), .int .i64 ((aftM Wd Ht a b).t), .bool ((aftM Wd Ht a b).f)]), isV (.int .i64 0), SP.any] (by kernel_rfl) (by kernel_rfl) (by kernel_rfl) (by rfl) alloc_M (fun d v c a w h => by cases d <;> exact h) ?_ ?_
  · intro qi qh qA aa wx hb hs hd
    match qi, qh, qA with
    | 0, _, _ => exact op_mv rfl (hs 0 rfl)
    | 1, _, _ => exact op_mv rfl (hs 1 rfl)
    | 2, _, _ => exact op_ldN rfl rfl (hs 6 rfl) ((HE.out.to hb).get 0 rfl)
    | 3, _, _ => exact op_call1 rfl rfl Try.call14 (by rw [(show aa.eval (.tmp 17) = .agg #[.int .i64 a.x, .int .i64 a.y, .int .i64 a.t, .bool a.f] from (hd 2 rfl))]; exact move_got a.x a.y a.t a.f _)
    | 4, _, _ => exact op_ldN rfl rfl (hs 7 rfl) ((HE.out.to hb).get 1 rfl)
    | 5, _, _ => exact op_call1 rfl rfl Try.call14 (by rw [(show aa.eval (.tmp 19) = .agg #[.int .i64 b.x, .int .i64 b.y, .int .i64 b.t, .bool b.f] from (hd 4 rfl))]; exact move_got b.x b.y b.t b.f _)
    | 6, _, _ => exact op_call4 rfl rfl Try.call23 (by rw [show aa.eval (.tmp 15) = .int .i64 Wd from (hd 0 rfl), show aa.eval (.tmp 16) = .int .i64 Ht from (hd 1 rfl), show aa.eval (.tmp 18) = .agg #[.int .i64 a.x, .int .i64 a.y, .int .i64 a.t, .bool a.f] from (hd 3 rfl), show aa.eval (.tmp 20) = .agg #[.int .i64 b.x, .int .i64 b.y, .int .i64 b.t, .bool b.f] from (hd 5 rfl)]; exact After_m HA.out HB2.out _)
    | 7, _, _ => exact op_mv rfl (hd 6 rfl)
    | 8, _, _ => exact op_fst rfl (hd 7 rfl)
    | 9, _, _ => exact op_snd rfl (hd 7 rfl)
    | 10, _, h => cases h
    | qi + 11, h, _ => omega
  · intro vs X1 hb hv hal hne
    have HL0 := Hd.mk (HE.out.lt)
    have HBW := HB
    replace HB := Hd.mk (bel_then HB.out hb)
    replace HE : Hd (Env X1 [⟨w.heap.size, 26, [.int .i64 a.x, .int .i64 a.y, .int .i64 a.t, .bool a.f]⟩, ⟨w.heap.size + 1, 26, [.int .i64 b.x, .int .i64 b.y, .int .i64 b.t, .bool b.f]⟩]) := ⟨HE.out.to hb⟩
    have HLS := HL0
    have e22 : vs 22 = .agg #[.int .i64 ((aftM Wd Ht a b).x), .int .i64 ((aftM Wd Ht a b).y), .int .i64 ((aftM Wd Ht a b).t), .bool ((aftM Wd Ht a b).f)] := hv 8 (by decide) rfl
    have e23 : vs 23 = .int .i64 0 := hv 9 (by decide) rfl
    obtain ⟨g9, e9, l9, b9⟩ : ∃ g, vs 9 = .pointer (some ⟨g, 0, none⟩) ∧ _ := hal 10 rfl
    replace HE : Hd (Env X1 [⟨w.heap.size, 26, [.int .i64 a.x, .int .i64 a.y, .int .i64 a.t, .bool a.f]⟩, ⟨w.heap.size + 1, 26, [.int .i64 b.x, .int .i64 b.y, .int .i64 b.t, .bool b.f]⟩, ⟨g9, 31, [.int .i64 0, .int .i64 0, .int .i64 0, .bool false]⟩]) := ⟨Env.addne (e := ⟨g9, 31, [.int .i64 0, .int .i64 0, .int .i64 0, .bool false]⟩) HE.out b9 (fun e' he => Nat.ne_of_lt (Nat.lt_of_lt_of_le (HL0.out e' he) l9))⟩
    have G9 : Hd (w.heap.size ≤ g9) := ⟨Nat.le_trans HBW.out.size l9⟩
    simp only [putAll, List.foldl_cons, List.foldl_nil, Act.put, List.setIfInBounds_toArray, List.set_cons_succ, List.set_cons_zero, List.drop_succ_cons, List.drop_zero, e22, e23, e9]
    generalize vs 15 = s15
    generalize vs 16 = s16
    generalize vs 17 = s17
    generalize vs 18 = s18
    generalize vs 19 = s19
    generalize vs 20 = s20
    generalize vs 21 = s21
    generalize vs 14 = s14
    clear hv hal hne hb HL0 HBW HLS e22 e23 e9 l9 b9
    refine wpList_st rfl rfl rfl rfl rfl (sto_M (HE.out.get 2 rfl)) ?_
    have HE' : Env (putL X1 g9 0 [.int .i64 ((aftM Wd Ht a b).x), .int .i64 ((aftM Wd Ht a b).y), .int .i64 ((aftM Wd Ht a b).t), .bool ((aftM Wd Ht a b).f)]) [⟨w.heap.size, 26, [.int .i64 a.x, .int .i64 a.y, .int .i64 a.t, .bool a.f]⟩, ⟨w.heap.size + 1, 26, [.int .i64 b.x, .int .i64 b.y, .int .i64 b.t, .bool b.f]⟩, ⟨g9, 31, [.int .i64 ((aftM Wd Ht a b).x), .int .i64 ((aftM Wd Ht a b).y), .int .i64 ((aftM Wd Ht a b).t), .bool ((aftM Wd Ht a b).f)]⟩] := HE.out.putF 2 rfl rfl
    have HB' := putL_below (show w.heap.size ≤ g9 from G9.out) [.int .i64 ((aftM Wd Ht a b).x), .int .i64 ((aftM Wd Ht a b).y), .int .i64 ((aftM Wd Ht a b).t), .bool ((aftM Wd Ht a b).f)] _ 0 HB.out
    generalize putL X1 g9 0 [.int .i64 ((aftM Wd Ht a b).x), .int .i64 ((aftM Wd Ht a b).y), .int .i64 ((aftM Wd Ht a b).t), .bool ((aftM Wd Ht a b).f)] = X2 at *
    replace HE := Hd.mk HE'
    replace HB := Hd.mk HB'
    clear HE' HB'
    go_upto_region 2 with fail
    refine wp_region_vd 9 [25, 26, 27, 28, 29, 24, 30, 31, 11] [0, 1, 5, 6, 7] [8] 31 [.int .i64 0, .int .i64 0, .int .i64 0, .bool false] [isV (.int .i64 Wd), isV (.int .i64 Ht), isV (.agg #[.int .i64 a.x, .int .i64 a.y, .int .i64 a.t, .bool a.f]), isV (.agg #[.int .i64 a.x, .int .i64 a.y, .int .i64 a.t, .bool a.f]), isP (isV (.agg #[.int .i64 ((invM Wd Ht a).x), .int .i64 ((invM Wd Ht a).y), .int .i64 ((invM Wd Ht a).t), .bool ((invM Wd Ht a).f)])) (isV (.int .i64 0)), isP (isV (.agg #[.int .i64 ((invM Wd Ht a).x), .int .i64 ((invM Wd Ht a).y), .int .i64 ((invM Wd Ht a).t), .bool ((invM Wd Ht a).f)])) (isV (.int .i64 0)), isV (.agg #[.int .i64 ((invM Wd Ht a).x), .int .i64 ((invM Wd Ht a).y), .int .i64 ((invM Wd Ht a).t), .bool ((invM Wd Ht a).f)]), isV (.int .i64 0), SP.any] (by rfl) alloc_M ?_ ?_
    · intro qi qh qA aa wx hb hs hd
      match qi, qh, qA with
      | 0, _, _ => exact .inl ⟨rfl, op_mv rfl (hs 0 rfl)⟩
      | 1, _, _ => exact .inl ⟨rfl, op_mv rfl (hs 1 rfl)⟩
      | 2, _, _ => exact .inl ⟨rfl, op_ldN rfl rfl (hs 6 rfl) ((HE.out.to hb).get 0 rfl)⟩
      | 3, _, _ => exact .inl ⟨rfl, op_call1 rfl rfl Try.call14 (by rw [(show aa.eval (.tmp 27) = .agg #[.int .i64 a.x, .int .i64 a.y, .int .i64 a.t, .bool a.f] from (hd 2 rfl))]; exact move_got a.x a.y a.t a.f _)⟩
      | 4, _, _ => exact .inl ⟨rfl, op_call3 rfl rfl Try.call24 (by rw [show aa.eval (.tmp 25) = .int .i64 Wd from (hd 0 rfl), show aa.eval (.tmp 26) = .int .i64 Ht from (hd 1 rfl), show aa.eval (.tmp 28) = .agg #[.int .i64 a.x, .int .i64 a.y, .int .i64 a.t, .bool a.f] from (hd 3 rfl)]; exact Inverse_m HA.out _)⟩
      | 5, _, _ => exact .inl ⟨rfl, op_mv rfl (hd 4 rfl)⟩
      | 6, _, _ => exact .inl ⟨rfl, op_fst rfl (hd 5 rfl)⟩
      | 7, _, _ => exact .inl ⟨rfl, op_snd rfl (hd 5 rfl)⟩
      | 8, _, h => cases h
      | qi + 9, h, _ => omega
    · intro vs X3 hb hv hal hne
      have HL0 := Hd.mk (HE.out.lt)
      have HBW := HB
      replace HB := Hd.mk (bel_then HB.out hb)
      replace HE : Hd (Env X3 [⟨w.heap.size, 26, [.int .i64 a.x, .int .i64 a.y, .int .i64 a.t, .bool a.f]⟩, ⟨w.heap.size + 1, 26, [.int .i64 b.x, .int .i64 b.y, .int .i64 b.t, .bool b.f]⟩, ⟨g9, 31, [.int .i64 ((aftM Wd Ht a b).x), .int .i64 ((aftM Wd Ht a b).y), .int .i64 ((aftM Wd Ht a b).t), .bool ((aftM Wd Ht a b).f)]⟩]) := ⟨HE.out.to hb⟩
      have HLS := HL0
      have e30 : vs 30 = .agg #[.int .i64 ((invM Wd Ht a).x), .int .i64 ((invM Wd Ht a).y), .int .i64 ((invM Wd Ht a).t), .bool ((invM Wd Ht a).f)] := hv 6 (by decide) rfl
      have e31 : vs 31 = .int .i64 0 := hv 7 (by decide) rfl
      obtain ⟨g11, e11, l11, b11⟩ : ∃ g, vs 11 = .pointer (some ⟨g, 0, none⟩) ∧ _ := hal 8 rfl
      replace HE : Hd (Env X3 [⟨w.heap.size, 26, [.int .i64 a.x, .int .i64 a.y, .int .i64 a.t, .bool a.f]⟩, ⟨w.heap.size + 1, 26, [.int .i64 b.x, .int .i64 b.y, .int .i64 b.t, .bool b.f]⟩, ⟨g9, 31, [.int .i64 ((aftM Wd Ht a b).x), .int .i64 ((aftM Wd Ht a b).y), .int .i64 ((aftM Wd Ht a b).t), .bool ((aftM Wd Ht a b).f)]⟩, ⟨g11, 31, [.int .i64 0, .int .i64 0, .int .i64 0, .bool false]⟩]) := ⟨Env.addne (e := ⟨g11, 31, [.int .i64 0, .int .i64 0, .int .i64 0, .bool false]⟩) HE.out b11 (fun e' he => Nat.ne_of_lt (Nat.lt_of_lt_of_le (HL0.out e' he) l11))⟩
      have G11 : Hd (w.heap.size ≤ g11) := ⟨Nat.le_trans HBW.out.size l11⟩
      simp only [putAll, List.foldl_cons, List.foldl_nil, Act.put, List.setIfInBounds_toArray, List.set_cons_succ, List.set_cons_zero, List.drop_succ_cons, List.drop_zero, e30, e31, e11]
      generalize vs 25 = s25
      generalize vs 26 = s26
      generalize vs 27 = s27
      generalize vs 28 = s28
      generalize vs 29 = s29
      generalize vs 24 = s24
      clear hv hal hne hb HL0 HBW HLS e30 e31 e11 l11 b11
      refine wpList_st rfl rfl rfl rfl rfl (sto_M (HE.out.get 3 rfl)) ?_
      have HE' : Env (putL X3 g11 0 [.int .i64 ((invM Wd Ht a).x), .int .i64 ((invM Wd Ht a).y), .int .i64 ((invM Wd Ht a).t), .bool ((invM Wd Ht a).f)]) [⟨w.heap.size, 26, [.int .i64 a.x, .int .i64 a.y, .int .i64 a.t, .bool a.f]⟩, ⟨w.heap.size + 1, 26, [.int .i64 b.x, .int .i64 b.y, .int .i64 b.t, .bool b.f]⟩, ⟨g9, 31, [.int .i64 ((aftM Wd Ht a b).x), .int .i64 ((aftM Wd Ht a b).y), .int .i64 ((aftM Wd Ht a b).t), .bool ((aftM Wd Ht a b).f)]⟩, ⟨g11, 31, [.int .i64 ((invM Wd Ht a).x), .int .i64 ((invM Wd Ht a).y), .int .i64 ((invM Wd Ht a).t), .bool ((invM Wd Ht a).f)]⟩] := HE.out.putF 3 rfl rfl
      have HB' := putL_below (show w.heap.size ≤ g11 from G11.out) [.int .i64 ((invM Wd Ht a).x), .int .i64 ((invM Wd Ht a).y), .int .i64 ((invM Wd Ht a).t), .bool ((invM Wd Ht a).f)] _ 0 HB.out
      generalize putL X3 g11 0 [.int .i64 ((invM Wd Ht a).x), .int .i64 ((invM Wd Ht a).y), .int .i64 ((invM Wd Ht a).t), .bool ((invM Wd Ht a).f)] = X4 at *
      replace HE := Hd.mk HE'
      replace HB := Hd.mk HB'
      clear HE' HB'
      go_upto_region 3 with fail
      refine wp_region_vd 9 [32, 33, 34, 35, 36, 37, 38, 39, 40] [0, 1, 3, 4, 5, 8] [] 84 [.int .i64 0, .int .i64 0] [isV (.int .i64 Wd), isV (.int .i64 Ht), isV (.bool true), isV (.bool true), isV (.int .i64 Wd), isV (.int .i64 Ht), isV (.agg #[.int .i64 a.x, .int .i64 a.y, .int .i64 a.t, .bool a.f]), isV (.bool true), isV (.bool true)] (by rfl) alloc_Z ?_ ?_
      · intro qi qh qA aa wx hb hs hd
        match qi, qh, qA with
        | 0, _, _ => exact .inl ⟨rfl, op_mv rfl (hs 0 rfl)⟩
        | 1, _, _ => exact .inl ⟨rfl, op_mv rfl (hs 1 rfl)⟩
        | 2, _, _ => exact .inl ⟨rfl, wp_b (bool_eq HS.out) (op_call2 rfl rfl Try.call25 (by rw [(show aa.eval (.tmp 32) = .int .i64 Wd from (hd 0 rfl)), (show aa.eval (.tmp 33) = .int .i64 Ht from (hd 1 rfl))]; exact rSize_got Wd Ht _))⟩
        | 3, _, _ => exact .inl ⟨rfl, op_mv rfl (hd 2 rfl)⟩
        | 4, _, _ => exact .inl ⟨⟨rfl, .inl (hd 3 rfl)⟩, op_mv rfl (hs 0 rfl)⟩
        | 5, _, _ => exact .inl ⟨⟨rfl, .inl (hd 3 rfl)⟩, op_mv rfl (hs 1 rfl)⟩
        | 6, _, _ => exact .inl ⟨⟨rfl, .inl (hd 3 rfl)⟩, op_ldN rfl rfl (hs 6 rfl) ((HE.out.to hb).get 0 rfl)⟩
        | 7, _, _ => exact .inl ⟨⟨rfl, .inl (hd 3 rfl)⟩, wp_b (bool_eq FA.out) (op_call3 rfl rfl Try.call19 (by rw [(show aa.eval (.tmp 36) = .int .i64 Wd from (hd 4 rfl)), (show aa.eval (.tmp 37) = .int .i64 Ht from (hd 5 rfl)), (show aa.eval (.tmp 38) = .agg #[.int .i64 a.x, .int .i64 a.y, .int .i64 a.t, .bool a.f] from (hd 6 rfl))]; exact Fits_got Wd Ht a.x a.y a.t a.f _))⟩
        | 8, _, _ => exact .inl ⟨rfl, ⟨_, op_pickT rfl (hd 3 rfl) (hd 7 rfl), rfl⟩⟩
        | qi + 9, h, _ => omega
      · intro vs X5 hb hv hal hne
        have HL0 := Hd.mk (HE.out.lt)
        have HBW := HB
        replace HB := Hd.mk (bel_then HB.out hb)
        replace HE : Hd (Env X5 [⟨w.heap.size, 26, [.int .i64 a.x, .int .i64 a.y, .int .i64 a.t, .bool a.f]⟩, ⟨w.heap.size + 1, 26, [.int .i64 b.x, .int .i64 b.y, .int .i64 b.t, .bool b.f]⟩, ⟨g9, 31, [.int .i64 ((aftM Wd Ht a b).x), .int .i64 ((aftM Wd Ht a b).y), .int .i64 ((aftM Wd Ht a b).t), .bool ((aftM Wd Ht a b).f)]⟩, ⟨g11, 31, [.int .i64 ((invM Wd Ht a).x), .int .i64 ((invM Wd Ht a).y), .int .i64 ((invM Wd Ht a).t), .bool ((invM Wd Ht a).f)]⟩]) := ⟨HE.out.to hb⟩
        have HLS := HL0
        have e40 : vs 40 = .bool true := hv 8 (by decide) rfl
        simp only [putAll, List.foldl_cons, List.foldl_nil, Act.put, List.setIfInBounds_toArray, List.set_cons_succ, List.set_cons_zero, List.drop_succ_cons, List.drop_zero, e40]
        generalize vs 32 = s32
        generalize vs 33 = s33
        generalize vs 34 = s34
        generalize vs 35 = s35
        generalize vs 36 = s36
        generalize vs 37 = s37
        generalize vs 38 = s38
        generalize vs 39 = s39
        clear hv hal hne hb HL0 HBW HLS e40
        go_upto_region 4 with fail
        refine wp_region_vd 2 [41, 42] [0, 1] [] 84 [.int .i64 0, .int .i64 0] [isV (.bool true), isV (.bool false)] (by rfl) alloc_Z ?_ ?_
        · intro qi qh qA aa wx hb hs hd
          match qi, qh, qA with
          | 0, _, _ => exact .inl ⟨rfl, op_mv rfl (hs 13 rfl)⟩
          | 1, _, _ => exact .inl ⟨rfl, ⟨_, op_not rfl (hd 0 rfl), rfl⟩⟩
          | qi + 2, h, _ => omega
        · intro vs X6 hb hv hal hne
          have HL0 := Hd.mk (HE.out.lt)
          have HBW := HB
          replace HB := Hd.mk (bel_then HB.out hb)
          replace HE : Hd (Env X6 [⟨w.heap.size, 26, [.int .i64 a.x, .int .i64 a.y, .int .i64 a.t, .bool a.f]⟩, ⟨w.heap.size + 1, 26, [.int .i64 b.x, .int .i64 b.y, .int .i64 b.t, .bool b.f]⟩, ⟨g9, 31, [.int .i64 ((aftM Wd Ht a b).x), .int .i64 ((aftM Wd Ht a b).y), .int .i64 ((aftM Wd Ht a b).t), .bool ((aftM Wd Ht a b).f)]⟩, ⟨g11, 31, [.int .i64 ((invM Wd Ht a).x), .int .i64 ((invM Wd Ht a).y), .int .i64 ((invM Wd Ht a).t), .bool ((invM Wd Ht a).f)]⟩]) := ⟨HE.out.to hb⟩
          have HLS := HL0
          have e42 : vs 42 = .bool false := hv 1 (by decide) rfl
          simp only [putAll, List.foldl_cons, List.foldl_nil, Act.put, List.setIfInBounds_toArray, List.set_cons_succ, List.set_cons_zero, List.drop_succ_cons, List.drop_zero, e42]
          generalize vs 41 = s41
          clear hv hal hne hb HL0 HBW HLS e42
          go_upto_region 6 with fail
          refine wp_region_vg 11 [62, 63, 64, 65, 66, 67, 68, 69, 70, 71, 72] [2, 3, 6, 7, 8, 9, 10] [] 84 [.int .i64 0, .int .i64 0] [isV (.agg #[.int .i64 ((invM Wd Ht a).x), .int .i64 ((invM Wd Ht a).y), .int .i64 ((invM Wd Ht a).t), .bool ((invM Wd Ht a).f)]), isV (.agg #[.int .i64 ((invM Wd Ht a).x), .int .i64 ((invM Wd Ht a).y), .int .i64 ((invM Wd Ht a).t), .bool ((invM Wd Ht a).f)]), isV (.int .i64 Wd), isV (.int .i64 Ht), isV (.agg #[.int .i64 a.x, .int .i64 a.y, .int .i64 a.t, .bool a.f]), isV (.agg #[.int .i64 ((invM Wd Ht a).x), .int .i64 ((invM Wd Ht a).y), .int .i64 ((invM Wd Ht a).t), .bool ((invM Wd Ht a).f)]), isV (.bool false), isV (.bool false), isV (.int .i64 0), isV (.bool false), isV (.bool false)] (by kernel_rfl) (by kernel_rfl) (by kernel_rfl) (by rfl) alloc_Z (fun d v c a w h => by cases d <;> exact h) ?_ ?_
          · intro qi qh qA aa wx hb hs hd
            match qi, qh, qA with
            | 0, _, _ => exact .inl ⟨rfl, op_ldM rfl rfl (hs 11 rfl) ((HE.out.to hb).get 3 rfl)⟩
            | 1, _, _ => exact .inl ⟨rfl, op_call1 rfl rfl Try.call26 (by rw [(show aa.eval (.tmp 62) = .agg #[.int .i64 ((invM Wd Ht a).x), .int .i64 ((invM Wd Ht a).y), .int .i64 ((invM Wd Ht a).t), .bool ((invM Wd Ht a).f)] from (hd 0 rfl))]; exact ownMove_got ((invM Wd Ht a).x) ((invM Wd Ht a).y) ((invM Wd Ht a).t) ((invM Wd Ht a).f) _)⟩
            | 2, _, _ => exact .inl ⟨rfl, op_mv rfl (hs 0 rfl)⟩
            | 3, _, _ => exact .inl ⟨rfl, op_mv rfl (hs 1 rfl)⟩
            | 4, _, _ => exact .inl ⟨rfl, op_ldN rfl rfl (hs 6 rfl) ((HE.out.to hb).get 0 rfl)⟩
            | 5, _, _ => exact .inl ⟨rfl, op_call3 rfl rfl Try.call27 (by rw [show aa.eval (.tmp 64) = .int .i64 Wd from (hd 2 rfl), show aa.eval (.tmp 65) = .int .i64 Ht from (hd 3 rfl), show aa.eval (.tmp 66) = .agg #[.int .i64 a.x, .int .i64 a.y, .int .i64 a.t, .bool a.f] from (hd 4 rfl)]; exact rInv_i HA.out _)⟩
            | 6, _, _ => exact .inl ⟨rfl, ⟨_, op_neqN rfl (hd 1 rfl) (hd 5 rfl), rfl⟩⟩
            | 7, _, _ => exact .inl ⟨rfl, op_mv rfl (hd 6 rfl)⟩
            | 8, _, _ => exact .inl ⟨⟨rfl, .inl (hd 7 rfl)⟩, op_mv rfl (hs 12 rfl)⟩
            | 9, _, _ => exact .inl ⟨⟨rfl, .inl (hd 7 rfl)⟩, pure_b (bool_eq (by decide)) (⟨_, op_neqE rfl (hd 8 rfl) rfl, rfl⟩)⟩
            | 10, _, _ => exact .inl ⟨rfl, ⟨_, op_pickF rfl (hd 7 rfl) (hd 9 rfl), rfl⟩⟩
            | qi + 11, h, _ => omega
          · intro vs X7 hb hv hal hne
            have HL0 := Hd.mk (HE.out.lt)
            have HBW := HB
            replace HB := Hd.mk (bel_then HB.out hb)
            replace HE : Hd (Env X7 [⟨w.heap.size, 26, [.int .i64 a.x, .int .i64 a.y, .int .i64 a.t, .bool a.f]⟩, ⟨w.heap.size + 1, 26, [.int .i64 b.x, .int .i64 b.y, .int .i64 b.t, .bool b.f]⟩, ⟨g9, 31, [.int .i64 ((aftM Wd Ht a b).x), .int .i64 ((aftM Wd Ht a b).y), .int .i64 ((aftM Wd Ht a b).t), .bool ((aftM Wd Ht a b).f)]⟩, ⟨g11, 31, [.int .i64 ((invM Wd Ht a).x), .int .i64 ((invM Wd Ht a).y), .int .i64 ((invM Wd Ht a).t), .bool ((invM Wd Ht a).f)]⟩]) := ⟨HE.out.to hb⟩
            have HLS := HL0
            have e72 : vs 72 = .bool false := hv 10 (by decide) rfl
            simp only [putAll, List.foldl_cons, List.foldl_nil, Act.put, List.setIfInBounds_toArray, List.set_cons_succ, List.set_cons_zero, List.drop_succ_cons, List.drop_zero, e72]
            generalize vs 62 = s62
            generalize vs 63 = s63
            generalize vs 64 = s64
            generalize vs 65 = s65
            generalize vs 66 = s66
            generalize vs 67 = s67
            generalize vs 68 = s68
            generalize vs 69 = s69
            generalize vs 70 = s70
            generalize vs 71 = s71
            clear hv hal hne hb HL0 HBW HLS e72
            go_upto_region 8 with fail
            refine wp_region_vd 5 [73, 74, 75, 76, 77] [0, 1, 4] [] 84 [.int .i64 0, .int .i64 0] [isV (.int .i64 Wd), isV (.int .i64 Ht), isV (.agg #[.int .i64 b.x, .int .i64 b.y, .int .i64 b.t, .bool b.f]), isV (.bool true), isV (.bool false)] (by rfl) alloc_Z ?_ ?_
            · intro qi qh qA aa wx hb hs hd
              match qi, qh, qA with
              | 0, _, _ => exact .inl ⟨rfl, op_mv rfl (hs 0 rfl)⟩
              | 1, _, _ => exact .inl ⟨rfl, op_mv rfl (hs 1 rfl)⟩
              | 2, _, _ => exact .inl ⟨rfl, op_ldN rfl rfl (hs 7 rfl) ((HE.out.to hb).get 1 rfl)⟩
              | 3, _, _ => exact .inl ⟨rfl, wp_b (bool_eq FB.out) (op_call3 rfl rfl Try.call19 (by rw [(show aa.eval (.tmp 73) = .int .i64 Wd from (hd 0 rfl)), (show aa.eval (.tmp 74) = .int .i64 Ht from (hd 1 rfl)), (show aa.eval (.tmp 75) = .agg #[.int .i64 b.x, .int .i64 b.y, .int .i64 b.t, .bool b.f] from (hd 2 rfl))]; exact Fits_got Wd Ht b.x b.y b.t b.f _))⟩
              | 4, _, _ => exact .inl ⟨rfl, ⟨_, op_not rfl (hd 3 rfl), rfl⟩⟩
              | qi + 5, h, _ => omega
            · intro vs X8 hb hv hal hne
              have HL0 := Hd.mk (HE.out.lt)
              have HBW := HB
              replace HB := Hd.mk (bel_then HB.out hb)
              replace HE : Hd (Env X8 [⟨w.heap.size, 26, [.int .i64 a.x, .int .i64 a.y, .int .i64 a.t, .bool a.f]⟩, ⟨w.heap.size + 1, 26, [.int .i64 b.x, .int .i64 b.y, .int .i64 b.t, .bool b.f]⟩, ⟨g9, 31, [.int .i64 ((aftM Wd Ht a b).x), .int .i64 ((aftM Wd Ht a b).y), .int .i64 ((aftM Wd Ht a b).t), .bool ((aftM Wd Ht a b).f)]⟩, ⟨g11, 31, [.int .i64 ((invM Wd Ht a).x), .int .i64 ((invM Wd Ht a).y), .int .i64 ((invM Wd Ht a).t), .bool ((invM Wd Ht a).f)]⟩]) := ⟨HE.out.to hb⟩
              have HLS := HL0
              have e77 : vs 77 = .bool false := hv 4 (by decide) rfl
              simp only [putAll, List.foldl_cons, List.foldl_nil, Act.put, List.setIfInBounds_toArray, List.set_cons_succ, List.set_cons_zero, List.drop_succ_cons, List.drop_zero, e77]
              generalize vs 73 = s73
              generalize vs 74 = s74
              generalize vs 75 = s75
              generalize vs 76 = s76
              clear hv hal hne hb HL0 HBW HLS e77
              go_upto_region 10 with fail
              refine wp_region_vg 16 [88, 89, 90, 91, 92, 93, 94, 95, 96, 97, 98, 99, 100, 101, 102, 8] [2, 3, 7, 8, 9, 10, 11, 12, 14, 15] [] 84 [.int .i64 0, .int .i64 0] [isV (.agg #[.int .i64 ((aftM Wd Ht a b).x), .int .i64 ((aftM Wd Ht a b).y), .int .i64 ((aftM Wd Ht a b).t), .bool ((aftM Wd Ht a b).f)]), isV (.agg #[.int .i64 ((aftM Wd Ht a b).x), .int .i64 ((aftM Wd Ht a b).y), .int .i64 ((aftM Wd Ht a b).t), .bool ((aftM Wd Ht a b).f)]), isV (.int .i64 Wd), isV (.int .i64 Ht), isV (.agg #[.int .i64 a.x, .int .i64 a.y, .int .i64 a.t, .bool a.f]), isV (.agg #[.int .i64 b.x, .int .i64 b.y, .int .i64 b.t, .bool b.f]), isV (.agg #[.int .i64 ((aftM Wd Ht a b).x), .int .i64 ((aftM Wd Ht a b).y), .int .i64 ((aftM Wd Ht a b).t), .bool ((aftM Wd Ht a b).f)]), isV (.bool true), isV (.bool true), isV (.int .i64 0), isV (.bool true), isV (.bool true), isV (.bool true), isV (.bool true), isV (.bool true), isV (.bool true)] (by kernel_rfl) (by kernel_rfl) (by kernel_rfl) (by rfl) alloc_Z (fun d v c a w h => by cases d <;> exact h) ?_ ?_
              · intro qi qh qA aa wx hb hs hd
                match qi, qh, qA with
                | 0, _, _ => exact .inl ⟨rfl, op_ldM rfl rfl (hs 9 rfl) ((HE.out.to hb).get 2 rfl)⟩
                | 1, _, _ => exact .inl ⟨rfl, op_call1 rfl rfl Try.call26 (by rw [(show aa.eval (.tmp 88) = .agg #[.int .i64 ((aftM Wd Ht a b).x), .int .i64 ((aftM Wd Ht a b).y), .int .i64 ((aftM Wd Ht a b).t), .bool ((aftM Wd Ht a b).f)] from (hd 0 rfl))]; exact ownMove_got ((aftM Wd Ht a b).x) ((aftM Wd Ht a b).y) ((aftM Wd Ht a b).t) ((aftM Wd Ht a b).f) _)⟩
                | 2, _, _ => exact .inl ⟨rfl, op_mv rfl (hs 0 rfl)⟩
                | 3, _, _ => exact .inl ⟨rfl, op_mv rfl (hs 1 rfl)⟩
                | 4, _, _ => exact .inl ⟨rfl, op_ldN rfl rfl (hs 6 rfl) ((HE.out.to hb).get 0 rfl)⟩
                | 5, _, _ => exact .inl ⟨rfl, op_ldN rfl rfl (hs 7 rfl) ((HE.out.to hb).get 1 rfl)⟩
                | 6, _, _ => exact .inl ⟨rfl, op_call4 rfl rfl Try.call28 (by rw [show aa.eval (.tmp 90) = .int .i64 Wd from (hd 2 rfl), show aa.eval (.tmp 91) = .int .i64 Ht from (hd 3 rfl), show aa.eval (.tmp 92) = .agg #[.int .i64 a.x, .int .i64 a.y, .int .i64 a.t, .bool a.f] from (hd 4 rfl), show aa.eval (.tmp 93) = .agg #[.int .i64 b.x, .int .i64 b.y, .int .i64 b.t, .bool b.f] from (hd 5 rfl)]; exact rAfter_got HA.out HB2.out _)⟩
                | 7, _, _ => exact .inl ⟨rfl, ⟨_, op_eqlN rfl (hd 1 rfl) (hd 6 rfl), rfl⟩⟩
                | 8, _, _ => exact .inl ⟨rfl, op_mv rfl (hd 7 rfl)⟩
                | 9, _, _ => exact .inl ⟨⟨rfl, .inl (hd 8 rfl)⟩, op_mv rfl (hs 10 rfl)⟩
                | 10, _, _ => exact .inl ⟨⟨rfl, .inl (hd 8 rfl)⟩, pure_b (bool_eq (by decide)) (⟨_, op_eqlE rfl (hd 9 rfl) rfl, rfl⟩)⟩
                | 11, _, _ => exact .inl ⟨rfl, ⟨_, op_pickT rfl (hd 8 rfl) (hd 10 rfl), rfl⟩⟩
                | 12, _, _ => exact .inl ⟨rfl, op_mv rfl (hd 11 rfl)⟩
                | 13, _, _ => exact .inl ⟨⟨rfl, .inl (hd 12 rfl)⟩, op_call0 rfl rfl Try.call18 (awake_got _)⟩
                | 14, _, _ => exact .inl ⟨rfl, ⟨_, op_pickT rfl (hd 12 rfl) (hd 13 rfl), rfl⟩⟩
                | 15, _, _ => exact .inl ⟨rfl, op_asg rfl (hd 14 rfl)⟩
                | qi + 16, h, _ => omega
              · intro vs X9 hb hv hal hne
                have HL0 := Hd.mk (HE.out.lt)
                have HBW := HB
                replace HB := Hd.mk (bel_then HB.out hb)
                replace HE : Hd (Env X9 [⟨w.heap.size, 26, [.int .i64 a.x, .int .i64 a.y, .int .i64 a.t, .bool a.f]⟩, ⟨w.heap.size + 1, 26, [.int .i64 b.x, .int .i64 b.y, .int .i64 b.t, .bool b.f]⟩, ⟨g9, 31, [.int .i64 ((aftM Wd Ht a b).x), .int .i64 ((aftM Wd Ht a b).y), .int .i64 ((aftM Wd Ht a b).t), .bool ((aftM Wd Ht a b).f)]⟩, ⟨g11, 31, [.int .i64 ((invM Wd Ht a).x), .int .i64 ((invM Wd Ht a).y), .int .i64 ((invM Wd Ht a).t), .bool ((invM Wd Ht a).f)]⟩]) := ⟨HE.out.to hb⟩
                have HLS := HL0
                have e8 : vs 8 = .bool true := hv 15 (by decide) rfl
                simp only [putAll, List.foldl_cons, List.foldl_nil, Act.put, List.setIfInBounds_toArray, List.set_cons_succ, List.set_cons_zero, List.drop_succ_cons, List.drop_zero, e8]
                generalize vs 88 = s88
                generalize vs 89 = s89
                generalize vs 90 = s90
                generalize vs 91 = s91
                generalize vs 92 = s92
                generalize vs 93 = s93
                generalize vs 94 = s94
                generalize vs 95 = s95
                generalize vs 96 = s96
                generalize vs 97 = s97
                generalize vs 98 = s98
                generalize vs 99 = s99
                generalize vs 100 = s100
                generalize vs 101 = s101
                generalize vs 102 = s102
                clear hv hal hne hb HL0 HBW HLS e8
                go_wp2_with fail
                go_ret
                exact ⟨_, rfl, HB.out, rfl⟩
end Go.Proofs.Ytddbmckbankmeaa
