/- Part 26 of the texts behind this claim. -/
import Derived.Test.YtcjcpfafalkceaaFq25
set_option linter.unusedVariables false
set_option linter.unusedSimpArgs false
namespace Go.Proofs.Ytcjcpfafalkceaa
open Go.RowKit
set_option maxRecDepth 100000 in
set_option maxHeartbeats 1000000 in
theorem lowest_got (n d : Int) (v1 v2 : Value) (w : World) (h1 : (isZ n).p v1 w) (h2 : (isZ d).p v2 w) (hd0 : d ≠ 0) (la : ln n.natAbs ≤ 100000) (lb : ln d.natAbs ≤ 100000) :
    Calls Try.prog 132 #[v1, v2] w (Got w (isL [zC (qn n d), zC (qd n d)]).p) := by
  obtain ⟨u1, x1, rfl, p1⟩ := isL_one.1 (isL_isZ.2 h1)
  obtain ⟨u2, x2, rfl, p2⟩ := isL_one.1 (isL_isZ.2 h2)
  have HD0 := Hd.mk hd0
  clear h1 h2 hd0
  have hg : zgcd n d ≠ 0 := by have := zgcd_pos (p := n) HD0.out; omega
  have HG := Hd.mk hg
  have lg : ln (zgcd n d).natAbs ≤ 100000 := Nat.le_trans (zgcd_ln n d) (by omega)
  have lng : ln (n / zgcd n d).natAbs ≤ 100000 := Nat.le_trans (ln_mono (Int.natAbs_ediv_le_natAbs _ _)) la
  have ldg : ln (d / zgcd n d).natAbs ≤ 100000 := Nat.le_trans (ln_mono (Int.natAbs_ediv_le_natAbs _ _)) lb
  have HN := Hd.mk (low_n n d)
  have HD := Hd.mk (low_d n HD0.out)
  clear hg
  by_cases hneg : d / zgcd n d < 0
  · have HNN : Hd (-(n / zgcd n d) = qn n d) := ⟨by rw [← HN.out, if_pos hneg]⟩
    have HDD : Hd (-(d / zgcd n d) = qd n d) := ⟨by rw [← HD.out, if_pos hneg]⟩
    have hdec : decide (d / zgcd n d < 0) = true := decide_eq_true hneg
    clear HN HD hneg
    go_enter Try.func132, Try.ntmps132
    go_upto_region 1 with fail
    obtain ⟨W0, hW0⟩ : ∃ W : World, W = ((w.alloc (.cells #[u1, x1] 70)).alloc (.cells #[u2, x2] 70)).alloc (.cells #[Value.bool false, Value.slice none 0 0, Value.bool false, Value.slice none 0 0] 103) := ⟨_, rfl⟩
    rw [← hW0]
    obtain ⟨he, hb⟩ := env_three (cp1 p1) (cp1 p2) (cp2 (cpz _) (cpz _)) hW0
    have HE := Hd.mk he
    have HB := Hd.mk hb
    clear he hb hW0
    refine wp_region_vd 7 [6, 7, 8, 9, 10, 11, 5] [0, 2, 5] [6] 70 [.bool false, .slice none 0 0] [isV (.pointer (some ⟨w.heap.size, 1, none⟩)), isN n.natAbs, isV (.pointer (some ⟨w.heap.size + 1, 1, none⟩)), isN d.natAbs, isN (Nat.gcd n.natAbs d.natAbs), isZ (((Nat.gcd n.natAbs d.natAbs : Nat) : Int)), SP.any] (by rfl) alloc_whole ?_ ?_
    · intro i hi hA aa wx hb hs hd
      match i, hi, hA with
      | 0, _, _ => exact .inl ⟨rfl, ⟨_, op_faW1 rfl (hs 2 rfl), rfl⟩⟩
      | 1, _, _ => exact .inl ⟨rfl, op_ldnn (off := 0) rfl rfl (hd 0 rfl) ((HE.out.to hb).get 0 rfl).a0⟩
      | 2, _, _ => exact .inl ⟨rfl, ⟨_, op_faW1 rfl (hs 3 rfl), rfl⟩⟩
      | 3, _, _ => exact .inl ⟨rfl, op_ldnn (off := 0) rfl rfl (hd 2 rfl) ((HE.out.to hb).get 1 rfl).a0⟩
      | 4, _, _ => exact .inl ⟨rfl, op_call2 rfl rfl Try.call91 (ngcd_got n.natAbs d.natAbs _ _ _ (hd 1 rfl) (hd 3 rfl) (by omega) (by omega))⟩
      | 5, _, _ => exact .inl ⟨rfl, op_bdW rfl (hd 4 rfl)⟩
      | 6, _, h => cases h
      | i + 7, h, _ => omega
    · intro vs X1 hb hv hal hne
      have HL0 := Hd.mk (HE.out.lt)
      have HBW := HB
      replace HB := Hd.mk (bel_then HB.out hb)
      replace HE : Hd (Env X1 [⟨w.heap.size, 70, [zC n]⟩, ⟨w.heap.size + 1, 70, [zC d]⟩, ⟨w.heap.size + 1 + 1, 103, [aC, aC]⟩]) := ⟨HE.out.to hb⟩
      obtain ⟨g5, e5, l5, b5⟩ : ∃ g, vs 5 = .pointer (some ⟨g, 0, none⟩) ∧ _ := hal 6 rfl
      have t11 : (isZ (((Nat.gcd n.natAbs d.natAbs : Nat) : Int))).p (vs 11) X1 := hv 5 (by decide) rfl
      obtain ⟨u11, y11, e11, c11⟩ := isL_one.1 (isL_isZ.2 t11)
      simp only [putAll, List.foldl_cons, List.foldl_nil, Act.put, List.setIfInBounds_toArray, List.set_cons_succ, List.set_cons_zero, List.drop_succ_cons, List.drop_zero, e5, e11]
      generalize vs 6 = s6
      generalize vs 7 = s7
      generalize vs 8 = s8
      generalize vs 9 = s9
      generalize vs 10 = s10
      replace HE : Hd (Env X1 [⟨w.heap.size, 70, [zC n]⟩, ⟨w.heap.size + 1, 70, [zC d]⟩, ⟨w.heap.size + 1 + 1, 103, [aC, aC]⟩, ⟨g5, 70, [aC]⟩]) := ⟨Env.addne (e := ⟨g5, 70, [aC]⟩) HE.out ⟨_, b5, cp1 (cpz _)⟩ (fun e' he => Nat.ne_of_lt (Nat.lt_of_lt_of_le (HL0.out e' he) l5))⟩
      have G5 : Hd (w.heap.size ≤ g5) := ⟨Nat.le_trans HBW.out.size l5⟩
      clear l5 b5
      clear HL0 HBW e5
      refine wpList_st rfl rfl rfl rfl rfl (sto_W c11 (Slot.one _) (HE.out.get 3 rfl)) ?_
      have HE' : Env (putAt X1 g5 0 u11 y11) [⟨w.heap.size, 70, [zC n]⟩, ⟨w.heap.size + 1, 70, [zC d]⟩, ⟨w.heap.size + 1 + 1, 103, [aC, aC]⟩, ⟨g5, 70, [zC (((Nat.gcd n.natAbs d.natAbs : Nat) : Int))]⟩] := HE.out.put1 3 rfl c11
      have HB' := below_putAt (o := 0) (u := u11) (v := y11) HB.out (show w.heap.size ≤ g5 from G5.out)
      generalize putAt X1 g5 0 u11 y11 = X2 at *
      replace HE := Hd.mk HE'
      replace HB := Hd.mk HB'
      clear HE' HB'
      clear hv hal hne hb
      replace HE : Hd (Env X2 [⟨w.heap.size, 70, [zC n]⟩, ⟨w.heap.size + 1, 70, [zC d]⟩, ⟨w.heap.size + 1 + 1, 103, [aC, aC]⟩, ⟨g5, 70, [zC (zgcd n d)]⟩]) := HE
      go_upto_region 2 with fail
      refine wp_region_vd 6 [13, 14, 15, 12, 16, 17] [3, 4, 5] [] 70 [.bool false, .slice none 0 0] [isZ n, isZ (zgcd n d), isZZ (n / (zgcd n d)) (n % (zgcd n d)), isZZ (n / (zgcd n d)) (n % (zgcd n d)), isZ (n / (zgcd n d)), isZ (n % (zgcd n d))] (by rfl) alloc_whole ?_ ?_
      · intro i hi hA aa wx hb hs hd
        match i, hi, hA with
        | 0, _, _ => exact .inl ⟨rfl, op_ldWz rfl rfl (hs 2 rfl) ((HE.out.to hb).get 0 rfl).a0⟩
        | 1, _, _ => exact .inl ⟨rfl, op_ldWz rfl rfl (hs 5 rfl) ((HE.out.to hb).get 3 rfl).a0⟩
        | 2, _, _ => exact .inl ⟨rfl, op_call2 rfl rfl Try.call90 (wdiv_got n (zgcd n d) HG.out _ _ _ (hd 0 rfl) (hd 1 rfl) (by omega) (by omega))⟩
        | 3, _, _ => exact .inl ⟨rfl, op_mv rfl (hd 2 rfl)⟩
        | 4, _, _ => exact .inl ⟨rfl, zz_fst rfl (hd 3 rfl)⟩
        | 5, _, _ => exact .inl ⟨rfl, zz_snd rfl (hd 3 rfl)⟩
        | i + 6, h, _ => omega
      · intro vs X3 hb hv hal hne
        replace HB := Hd.mk (bel_then HB.out hb)
        replace HE : Hd (Env X3 [⟨w.heap.size, 70, [zC n]⟩, ⟨w.heap.size + 1, 70, [zC d]⟩, ⟨w.heap.size + 1 + 1, 103, [aC, aC]⟩, ⟨g5, 70, [zC (zgcd n d)]⟩]) := ⟨HE.out.to hb⟩
        have t16 : (isZ (n / (zgcd n d))).p (vs 16) X3 := hv 4 (by decide) rfl
        obtain ⟨u16, y16, e16, c16⟩ := isL_one.1 (isL_isZ.2 t16)
        simp only [putAll, List.foldl_cons, List.foldl_nil, Act.put, List.setIfInBounds_toArray, List.set_cons_succ, List.set_cons_zero, List.drop_succ_cons, List.drop_zero, e16]
        generalize vs 13 = s13
        generalize vs 14 = s14
        generalize vs 15 = s15
        generalize vs 12 = s12
        generalize vs 17 = s17
        refine wpList_st rfl rfl rfl rfl rfl (sto_W c16 (Slot.one _) (HE.out.get 0 rfl)) ?_
        have HE' : Env (putAt X3 w.heap.size 0 u16 y16) [⟨w.heap.size, 70, [zC (n / (zgcd n d))]⟩, ⟨w.heap.size + 1, 70, [zC d]⟩, ⟨w.heap.size + 1 + 1, 103, [aC, aC]⟩, ⟨g5, 70, [zC (zgcd n d)]⟩] := HE.out.put1 0 rfl c16
        have HB' := below_putAt (o := 0) (u := u16) (v := y16) HB.out (show w.heap.size ≤ w.heap.size from by omega)
        generalize putAt X3 w.heap.size 0 u16 y16 = X4 at *
        replace HE := Hd.mk HE'
        replace HB := Hd.mk HB'
        clear HE' HB'
        clear hv hal hne hb
        go_upto_region 3 with fail
        refine wp_region_vd 6 [19, 20, 21, 18, 22, 23] [3, 4, 5] [] 70 [.bool false, .slice none 0 0] [isZ d, isZ (zgcd n d), isZZ (d / (zgcd n d)) (d % (zgcd n d)), isZZ (d / (zgcd n d)) (d % (zgcd n d)), isZ (d / (zgcd n d)), isZ (d % (zgcd n d))] (by rfl) alloc_whole ?_ ?_
        · intro i hi hA aa wx hb hs hd
          match i, hi, hA with
          | 0, _, _ => exact .inl ⟨rfl, op_ldWz rfl rfl (hs 3 rfl) ((HE.out.to hb).get 1 rfl).a0⟩
          | 1, _, _ => exact .inl ⟨rfl, op_ldWz rfl rfl (hs 5 rfl) ((HE.out.to hb).get 3 rfl).a0⟩
          | 2, _, _ => exact .inl ⟨rfl, op_call2 rfl rfl Try.call90 (wdiv_got d (zgcd n d) HG.out _ _ _ (hd 0 rfl) (hd 1 rfl) (by omega) (by omega))⟩
          | 3, _, _ => exact .inl ⟨rfl, op_mv rfl (hd 2 rfl)⟩
          | 4, _, _ => exact .inl ⟨rfl, zz_fst rfl (hd 3 rfl)⟩
          | 5, _, _ => exact .inl ⟨rfl, zz_snd rfl (hd 3 rfl)⟩
          | i + 6, h, _ => omega
        · intro vs X5 hb hv hal hne
          replace HB := Hd.mk (bel_then HB.out hb)
          replace HE : Hd (Env X5 [⟨w.heap.size, 70, [zC (n / (zgcd n d))]⟩, ⟨w.heap.size + 1, 70, [zC d]⟩, ⟨w.heap.size + 1 + 1, 103, [aC, aC]⟩, ⟨g5, 70, [zC (zgcd n d)]⟩]) := ⟨HE.out.to hb⟩
          have t22 : (isZ (d / (zgcd n d))).p (vs 22) X5 := hv 4 (by decide) rfl
          obtain ⟨u22, y22, e22, c22⟩ := isL_one.1 (isL_isZ.2 t22)
          simp only [putAll, List.foldl_cons, List.foldl_nil, Act.put, List.setIfInBounds_toArray, List.set_cons_succ, List.set_cons_zero, List.drop_succ_cons, List.drop_zero, e22]
          generalize vs 19 = s19
          generalize vs 20 = s20
          generalize vs 21 = s21
          generalize vs 18 = s18
          generalize vs 23 = s23
          refine wpList_st rfl rfl rfl rfl rfl (sto_W c22 (Slot.one _) (HE.out.get 1 rfl)) ?_
          have HE' : Env (putAt X5 (w.heap.size + 1) 0 u22 y22) [⟨w.heap.size, 70, [zC (n / (zgcd n d))]⟩, ⟨w.heap.size + 1, 70, [zC (d / (zgcd n d))]⟩, ⟨w.heap.size + 1 + 1, 103, [aC, aC]⟩, ⟨g5, 70, [zC (zgcd n d)]⟩] := HE.out.put1 1 rfl c22
          have HB' := below_putAt (o := 0) (u := u22) (v := y22) HB.out (show w.heap.size ≤ w.heap.size + 1 from by omega)
          generalize putAt X5 (w.heap.size + 1) 0 u22 y22 = X6 at *
          replace HE := Hd.mk HE'
          replace HB := Hd.mk HB'
          clear HE' HB'
          clear hv hal hne hb
          go_upto_region 4 with fail
          refine wp_region_vd 2 [24, 25] [0] [] 70 [.bool false, .slice none 0 0] [isV (.pointer (some ⟨w.heap.size + 1, 0, none⟩)), isV (.bool true)] (by rfl) alloc_whole ?_ ?_
          · intro i hi hA aa wx hb hs hd
            match i, hi, hA with
            | 0, _, _ => exact .inl ⟨rfl, ⟨_, op_faW0 rfl (hs 3 rfl), rfl⟩⟩
            | 1, _, _ => exact .inl ⟨rfl, wp_b hdec (op_ldb rfl rfl (hd 0 rfl) ((HE.out.to hb).get 1 rfl).a0)⟩
            | i + 2, h, _ => omega
          · intro vs X7 hb hv hal hne
            replace HB := Hd.mk (bel_then HB.out hb)
            replace HE : Hd (Env X7 [⟨w.heap.size, 70, [zC (n / (zgcd n d))]⟩, ⟨w.heap.size + 1, 70, [zC (d / (zgcd n d))]⟩, ⟨w.heap.size + 1 + 1, 103, [aC, aC]⟩, ⟨g5, 70, [zC (zgcd n d)]⟩]) := ⟨HE.out.to hb⟩
            have e25 : vs 25 = .bool true := hv 1 (by decide) rfl
            simp only [putAll, List.foldl_cons, List.foldl_nil, Act.put, List.setIfInBounds_toArray, List.set_cons_succ, List.set_cons_zero, List.drop_succ_cons, List.drop_zero, e25]
            generalize vs 24 = s24
            clear hv hal hne hb
            go_upto_region 5 with fail
            refine wp_region_vs 4 [26, 27, 28, 29] [] [] 70 [.bool false, .slice none 0 0] [isZ (n / (zgcd n d)), isZ (-(n / (zgcd n d))), isZ (d / (zgcd n d)), isZ (-(d / (zgcd n d)))] (by kernel_rfl) (by kernel_rfl) (by kernel_rfl) (by rfl) alloc_whole (fun d v c a w h => by cases d <;> exact h) ?_ ?_
            · intro i hi hA aa wx hb hs hd
              match i, hi, hA with
              | 0, _, _ => exact op_ldWz rfl rfl (hs 2 rfl) ((HE.out.to hb).get 0 rfl).a0
              | 1, _, _ => exact op_call1 rfl rfl Try.call92 (wminus_got (n / (zgcd n d)) _ _ (hd 0 rfl))
              | 2, _, _ => exact op_ldWz rfl rfl (hs 3 rfl) ((HE.out.to hb).get 1 rfl).a0
              | 3, _, _ => exact op_call1 rfl rfl Try.call92 (wminus_got (d / (zgcd n d)) _ _ (hd 2 rfl))
              | i + 4, h, _ => omega
            · intro vs X8 hb hv hal hne
              replace HB := Hd.mk (bel_then HB.out hb)
              replace HE : Hd (Env X8 [⟨w.heap.size, 70, [zC (n / (zgcd n d))]⟩, ⟨w.heap.size + 1, 70, [zC (d / (zgcd n d))]⟩, ⟨w.heap.size + 1 + 1, 103, [aC, aC]⟩, ⟨g5, 70, [zC (zgcd n d)]⟩]) := ⟨HE.out.to hb⟩
              have t27 : (isZ (-(n / (zgcd n d)))).p (vs 27) X8 := hv 1 (by decide) rfl
              obtain ⟨u27, y27, e27, c27⟩ := isL_one.1 (isL_isZ.2 t27)
              have t29 : (isZ (-(d / (zgcd n d)))).p (vs 29) X8 := hv 3 (by decide) rfl
              obtain ⟨u29, y29, e29, c29⟩ := isL_one.1 (isL_isZ.2 t29)
              simp only [putAll, List.foldl_cons, List.foldl_nil, Act.put, List.setIfInBounds_toArray, List.set_cons_succ, List.set_cons_zero, List.drop_succ_cons, List.drop_zero, e27, e29]
              generalize vs 26 = s26
              generalize vs 28 = s28
              refine wpList_st rfl rfl rfl rfl rfl (sto_W c27 (Slot.one _) (HE.out.get 0 rfl)) ?_
              have HE' : Env (putAt X8 w.heap.size 0 u27 y27) [⟨w.heap.size, 70, [zC (-(n / (zgcd n d)))]⟩, ⟨w.heap.size + 1, 70, [zC (d / (zgcd n d))]⟩, ⟨w.heap.size + 1 + 1, 103, [aC, aC]⟩, ⟨g5, 70, [zC (zgcd n d)]⟩] := HE.out.put1 0 rfl c27
              have HB' := below_putAt (o := 0) (u := u27) (v := y27) HB.out (show w.heap.size ≤ w.heap.size from by omega)
              replace c29 := cp_at c29 (u := u27) (v := y27) (Slot.one _) (HE.out.get 0 rfl)
              generalize putAt X8 w.heap.size 0 u27 y27 = X9 at *
              replace HE := Hd.mk HE'
              replace HB := Hd.mk HB'
              clear HE' HB'
              refine wpList_st rfl rfl rfl rfl rfl (sto_W c29 (Slot.one _) (HE.out.get 1 rfl)) ?_
              have HE' : Env (putAt X9 (w.heap.size + 1) 0 u29 y29) [⟨w.heap.size, 70, [zC (-(n / (zgcd n d)))]⟩, ⟨w.heap.size + 1, 70, [zC (-(d / (zgcd n d)))]⟩, ⟨w.heap.size + 1 + 1, 103, [aC, aC]⟩, ⟨g5, 70, [zC (zgcd n d)]⟩] := HE.out.put1 1 rfl c29
              have HB' := below_putAt (o := 0) (u := u29) (v := y29) HB.out (show w.heap.size ≤ w.heap.size + 1 from by omega)
              generalize putAt X9 (w.heap.size + 1) 0 u29 y29 = X10 at *
              replace HE := Hd.mk HE'
              replace HB := Hd.mk HB'
              clear HE' HB'
              clear hv hal hne hb
              go_upto_region 6 with fail
              refine wp_region_vd 3 [30, 31, 32] [2] [] 70 [.bool false, .slice none 0 0] [isZ (-(n / (zgcd n d))), isZ (-(d / (zgcd n d))), isL [zC (-(n / (zgcd n d))), zC (-(d / (zgcd n d)))]] (by rfl) alloc_whole ?_ ?_
              · intro i hi hA aa wx hb hs hd
                match i, hi, hA with
                | 0, _, _ => exact .inl ⟨rfl, op_ldWz rfl rfl (hs 2 rfl) ((HE.out.to hb).get 0 rfl).a0⟩
                | 1, _, _ => exact .inl ⟨rfl, op_ldWz rfl rfl (hs 3 rfl) ((HE.out.to hb).get 1 rfl).a0⟩
                | 2, _, _ => exact .inl ⟨rfl, op_bdQ rfl (isL_isZ.2 (hd 0 rfl)) (isL_isZ.2 (hd 1 rfl))⟩
                | i + 3, h, _ => omega
              · intro vs X11 hb hv hal hne
                replace HB := Hd.mk (bel_then HB.out hb)
                replace HE : Hd (Env X11 [⟨w.heap.size, 70, [zC (-(n / (zgcd n d)))]⟩, ⟨w.heap.size + 1, 70, [zC (-(d / (zgcd n d)))]⟩, ⟨w.heap.size + 1 + 1, 103, [aC, aC]⟩, ⟨g5, 70, [zC (zgcd n d)]⟩]) := ⟨HE.out.to hb⟩
                have t32 : (isL [zC (-(n / (zgcd n d))), zC (-(d / (zgcd n d)))]).p (vs 32) X11 := hv 2 (by decide) rfl
                obtain ⟨u32, y32, p32, q32, e32, c32, k32⟩ := isL_two.1 t32
                simp only [putAll, List.foldl_cons, List.foldl_nil, Act.put, List.setIfInBounds_toArray, List.set_cons_succ, List.set_cons_zero, List.drop_succ_cons, List.drop_zero, e32]
                generalize vs 30 = s30
                generalize vs 31 = s31
                refine wpList_st rfl rfl rfl rfl rfl (sto_Q c32 k32 (HE.out.get 2 rfl)) ?_
                have HE' : Env (putAt (putAt X11 (w.heap.size + 1 + 1) 0 u32 y32) (w.heap.size + 1 + 1) 2 p32 q32) [⟨w.heap.size, 70, [zC (-(n / (zgcd n d)))]⟩, ⟨w.heap.size + 1, 70, [zC (-(d / (zgcd n d)))]⟩, ⟨w.heap.size + 1 + 1, 103, [zC (-(n / (zgcd n d))), zC (-(d / (zgcd n d)))]⟩, ⟨g5, 70, [zC (zgcd n d)]⟩] := HE.out.put4 2 rfl c32 k32
                have HB' := below_put4 (u := u32) (v := y32) (u' := p32) (v' := q32) HB.out (show w.heap.size ≤ w.heap.size + 1 + 1 from by omega)
                generalize putAt (putAt X11 (w.heap.size + 1 + 1) 0 u32 y32) (w.heap.size + 1 + 1) 2 p32 q32 = X12 at *
                replace HE := Hd.mk HE'
                replace HB := Hd.mk HB'
                clear HE' HB'
                clear hv hal hne hb
                go_wp2_with fail
                obtain ⟨u, v, x, y, k0, k1, k2, k3, h1, h2⟩ := (HE.out.get 2 rfl).cells2
                refine bodyPost_ret (v := .agg #[u, v, x, y]) (by simp [results, Try.results132, go_sem, k0, k1, k2, k3]) rfl ?_
                rw [HNN.out] at h1
                rw [HDD.out] at h2
                exact ⟨_, rfl, HB.out, isL_two.2 ⟨_, _, _, _, rfl, h1, h2⟩⟩
  · have HNN : Hd (n / zgcd n d = qn n d) := ⟨by rw [← HN.out, if_neg hneg]⟩
    have HDD : Hd (d / zgcd n d = qd n d) := ⟨by rw [← HD.out, if_neg hneg]⟩
    have hdec : decide (d / zgcd n d < 0) = false := decide_eq_false hneg
    clear HN HD hneg
    go_enter Try.func132, Try.ntmps132
    go_upto_region 1 with fail
    obtain ⟨W0, hW0⟩ : ∃ W : World, W = ((w.alloc (.cells #[u1, x1] 70)).alloc (.cells #[u2, x2] 70)).alloc (.cells #[Value.bool false, Value.slice none 0 0, Value.bool false, Value.slice none 0 0] 103) := ⟨_, rfl⟩
    rw [← hW0]
    obtain ⟨he, hb⟩ := env_three (cp1 p1) (cp1 p2) (cp2 (cpz _) (cpz _)) hW0
    have HE := Hd.mk he
    have HB := Hd.mk hb
    clear he hb hW0
    refine wp_region_vd 7 [6, 7, 8, 9, 10, 11, 5] [0, 2, 5] [6] 70 [.bool false, .slice none 0 0] [isV (.pointer (some ⟨w.heap.size, 1, none⟩)), isN n.natAbs, isV (.pointer (some ⟨w.heap.size + 1, 1, none⟩)), isN d.natAbs, isN (Nat.gcd n.natAbs d.natAbs), isZ (((Nat.gcd n.natAbs d.natAbs : Nat) : Int)), SP.any] (by rfl) alloc_whole ?_ ?_
    · intro i hi hA aa wx hb hs hd
      match i, hi, hA with
      | 0, _, _ => exact .inl ⟨rfl, ⟨_, op_faW1 rfl (hs 2 rfl), rfl⟩⟩
      | 1, _, _ => exact .inl ⟨rfl, op_ldnn (off := 0) rfl rfl (hd 0 rfl) ((HE.out.to hb).get 0 rfl).a0⟩
      | 2, _, _ => exact .inl ⟨rfl, ⟨_, op_faW1 rfl (hs 3 rfl), rfl⟩⟩
      | 3, _, _ => exact .inl ⟨rfl, op_ldnn (off := 0) rfl rfl (hd 2 rfl) ((HE.out.to hb).get 1 rfl).a0⟩
      | 4, _, _ => exact .inl ⟨rfl, op_call2 rfl rfl Try.call91 (ngcd_got n.natAbs d.natAbs _ _ _ (hd 1 rfl) (hd 3 rfl) (by omega) (by omega))⟩
      | 5, _, _ => exact .inl ⟨rfl, op_bdW rfl (hd 4 rfl)⟩
      | 6, _, h => cases h
      | i + 7, h, _ => omega
    · intro vs X1 hb hv hal hne
      have HL0 := Hd.mk (HE.out.lt)
      have HBW := HB
      replace HB := Hd.mk (bel_then HB.out hb)
      replace HE : Hd (Env X1 [⟨w.heap.size, 70, [zC n]⟩, ⟨w.heap.size + 1, 70, [zC d]⟩, ⟨w.heap.size + 1 + 1, 103, [aC, aC]⟩]) := ⟨HE.out.to hb⟩
      obtain ⟨g5, e5, l5, b5⟩ : ∃ g, vs 5 = .pointer (some ⟨g, 0, none⟩) ∧ _ := hal 6 rfl
      have t11 : (isZ (((Nat.gcd n.natAbs d.natAbs : Nat) : Int))).p (vs 11) X1 := hv 5 (by decide) rfl
      obtain ⟨u11, y11, e11, c11⟩ := isL_one.1 (isL_isZ.2 t11)
      simp only [putAll, List.foldl_cons, List.foldl_nil, Act.put, List.setIfInBounds_toArray, List.set_cons_succ, List.set_cons_zero, List.drop_succ_cons, List.drop_zero, e5, e11]
      generalize vs 6 = s6
      generalize vs 7 = s7
      generalize vs 8 = s8
      generalize vs 9 = s9
      generalize vs 10 = s10
      replace HE : Hd (Env X1 [⟨w.heap.size, 70, [zC n]⟩, ⟨w.heap.size + 1, 70, [zC d]⟩, ⟨w.heap.size + 1 + 1, 103, [aC, aC]⟩, ⟨g5, 70, [aC]⟩]) := ⟨Env.addne (e := ⟨g5, 70, [aC]⟩) HE.out ⟨_, b5, cp1 (cpz _)⟩ (fun e' he => Nat.ne_of_lt (Nat.lt_of_lt_of_le (HL0.out e' he) l5))⟩
      have G5 : Hd (w.heap.size ≤ g5) := ⟨Nat.le_trans HBW.out.size l5⟩
      clear l5 b5
      clear HL0 HBW e5
      refine wpList_st rfl rfl rfl rfl rfl (sto_W c11 (Slot.one _) (HE.out.get 3 rfl)) ?_
      have HE' : Env (putAt X1 g5 0 u11 y11) [⟨w.heap.size, 70, [zC n]⟩, ⟨w.heap.size + 1, 70, [zC d]⟩, ⟨w.heap.size + 1 + 1, 103, [aC, aC]⟩, ⟨g5, 70, [zC (((Nat.gcd n.natAbs d.natAbs : Nat) : Int))]⟩] := HE.out.put1 3 rfl c11
      have HB' := below_putAt (o := 0) (u := u11) (v := y11) HB.out (show w.heap.size ≤ g5 from G5.out)
      generalize putAt X1 g5 0 u11 y11 = X2 at *
      replace HE := Hd.mk HE'
      replace HB := Hd.mk HB'
      clear HE' HB'
      clear hv hal hne hb
      replace HE : Hd (Env X2 [⟨w.heap.size, 70, [zC n]⟩, ⟨w.heap.size + 1, 70, [zC d]⟩, ⟨w.heap.size + 1 + 1, 103, [aC, aC]⟩, ⟨g5, 70, [zC (zgcd n d)]⟩]) := HE
      go_upto_region 2 with fail
      refine wp_region_vd 6 [13, 14, 15, 12, 16, 17] [3, 4, 5] [] 70 [.bool false, .slice none 0 0] [isZ n, isZ (zgcd n d), isZZ (n / (zgcd n d)) (n % (zgcd n d)), isZZ (n / (zgcd n d)) (n % (zgcd n d)), isZ (n / (zgcd n d)), isZ (n % (zgcd n d))] (by rfl) alloc_whole ?_ ?_
      · intro i hi hA aa wx hb hs hd
        match i, hi, hA with
        | 0, _, _ => exact .inl ⟨rfl, op_ldWz rfl rfl (hs 2 rfl) ((HE.out.to hb).get 0 rfl).a0⟩
        | 1, _, _ => exact .inl ⟨rfl, op_ldWz rfl rfl (hs 5 rfl) ((HE.out.to hb).get 3 rfl).a0⟩
        | 2, _, _ => exact .inl ⟨rfl, op_call2 rfl rfl Try.call90 (wdiv_got n (zgcd n d) HG.out _ _ _ (hd 0 rfl) (hd 1 rfl) (by omega) (by omega))⟩
        | 3, _, _ => exact .inl ⟨rfl, op_mv rfl (hd 2 rfl)⟩
        | 4, _, _ => exact .inl ⟨rfl, zz_fst rfl (hd 3 rfl)⟩
        | 5, _, _ => exact .inl ⟨rfl, zz_snd rfl (hd 3 rfl)⟩
        | i + 6, h, _ => omega
      · intro vs X3 hb hv hal hne
        replace HB := Hd.mk (bel_then HB.out hb)
        replace HE : Hd (Env X3 [⟨w.heap.size, 70, [zC n]⟩, ⟨w.heap.size + 1, 70, [zC d]⟩, ⟨w.heap.size + 1 + 1, 103, [aC, aC]⟩, ⟨g5, 70, [zC (zgcd n d)]⟩]) := ⟨HE.out.to hb⟩
        have t16 : (isZ (n / (zgcd n d))).p (vs 16) X3 := hv 4 (by decide) rfl
        obtain ⟨u16, y16, e16, c16⟩ := isL_one.1 (isL_isZ.2 t16)
        simp only [putAll, List.foldl_cons, List.foldl_nil, Act.put, List.setIfInBounds_toArray, List.set_cons_succ, List.set_cons_zero, List.drop_succ_cons, List.drop_zero, e16]
        generalize vs 13 = s13
        generalize vs 14 = s14
        generalize vs 15 = s15
        generalize vs 12 = s12
        generalize vs 17 = s17
        refine wpList_st rfl rfl rfl rfl rfl (sto_W c16 (Slot.one _) (HE.out.get 0 rfl)) ?_
        have HE' : Env (putAt X3 w.heap.size 0 u16 y16) [⟨w.heap.size, 70, [zC (n / (zgcd n d))]⟩, ⟨w.heap.size + 1, 70, [zC d]⟩, ⟨w.heap.size + 1 + 1, 103, [aC, aC]⟩, ⟨g5, 70, [zC (zgcd n d)]⟩] := HE.out.put1 0 rfl c16
        have HB' := below_putAt (o := 0) (u := u16) (v := y16) HB.out (show w.heap.size ≤ w.heap.size from by omega)
        generalize putAt X3 w.heap.size 0 u16 y16 = X4 at *
        replace HE := Hd.mk HE'
        replace HB := Hd.mk HB'
        clear HE' HB'
        clear hv hal hne hb
        go_upto_region 3 with fail
        refine wp_region_vd 6 [19, 20, 21, 18, 22, 23] [3, 4, 5] [] 70 [.bool false, .slice none 0 0] [isZ d, isZ (zgcd n d), isZZ (d / (zgcd n d)) (d % (zgcd n d)), isZZ (d / (zgcd n d)) (d % (zgcd n d)), isZ (d / (zgcd n d)), isZ (d % (zgcd n d))] (by rfl) alloc_whole ?_ ?_
        · intro i hi hA aa wx hb hs hd
          match i, hi, hA with
          | 0, _, _ => exact .inl ⟨rfl, op_ldWz rfl rfl (hs 3 rfl) ((HE.out.to hb).get 1 rfl).a0⟩
          | 1, _, _ => exact .inl ⟨rfl, op_ldWz rfl rfl (hs 5 rfl) ((HE.out.to hb).get 3 rfl).a0⟩
          | 2, _, _ => exact .inl ⟨rfl, op_call2 rfl rfl Try.call90 (wdiv_got d (zgcd n d) HG.out _ _ _ (hd 0 rfl) (hd 1 rfl) (by omega) (by omega))⟩
          | 3, _, _ => exact .inl ⟨rfl, op_mv rfl (hd 2 rfl)⟩
          | 4, _, _ => exact .inl ⟨rfl, zz_fst rfl (hd 3 rfl)⟩
          | 5, _, _ => exact .inl ⟨rfl, zz_snd rfl (hd 3 rfl)⟩
          | i + 6, h, _ => omega
        · intro vs X5 hb hv hal hne
          replace HB := Hd.mk (bel_then HB.out hb)
          replace HE : Hd (Env X5 [⟨w.heap.size, 70, [zC (n / (zgcd n d))]⟩, ⟨w.heap.size + 1, 70, [zC d]⟩, ⟨w.heap.size + 1 + 1, 103, [aC, aC]⟩, ⟨g5, 70, [zC (zgcd n d)]⟩]) := ⟨HE.out.to hb⟩
          have t22 : (isZ (d / (zgcd n d))).p (vs 22) X5 := hv 4 (by decide) rfl
          obtain ⟨u22, y22, e22, c22⟩ := isL_one.1 (isL_isZ.2 t22)
          simp only [putAll, List.foldl_cons, List.foldl_nil, Act.put, List.setIfInBounds_toArray, List.set_cons_succ, List.set_cons_zero, List.drop_succ_cons, List.drop_zero, e22]
          generalize vs 19 = s19
          generalize vs 20 = s20
          generalize vs 21 = s21
          generalize vs 18 = s18
          generalize vs 23 = s23
          refine wpList_st rfl rfl rfl rfl rfl (sto_W c22 (Slot.one _) (HE.out.get 1 rfl)) ?_
          have HE' : Env (putAt X5 (w.heap.size + 1) 0 u22 y22) [⟨w.heap.size, 70, [zC (n / (zgcd n d))]⟩, ⟨w.heap.size + 1, 70, [zC (d / (zgcd n d))]⟩, ⟨w.heap.size + 1 + 1, 103, [aC, aC]⟩, ⟨g5, 70, [zC (zgcd n d)]⟩] := HE.out.put1 1 rfl c22
          have HB' := below_putAt (o := 0) (u := u22) (v := y22) HB.out (show w.heap.size ≤ w.heap.size + 1 from by omega)
          generalize putAt X5 (w.heap.size + 1) 0 u22 y22 = X6 at *
          replace HE := Hd.mk HE'
          replace HB := Hd.mk HB'
          clear HE' HB'
          clear hv hal hne hb
          go_upto_region 4 with fail
          refine wp_region_vd 2 [24, 25] [0] [] 70 [.bool false, .slice none 0 0] [isV (.pointer (some ⟨w.heap.size + 1, 0, none⟩)), isV (.bool false)] (by rfl) alloc_whole ?_ ?_
          · intro i hi hA aa wx hb hs hd
            match i, hi, hA with
            | 0, _, _ => exact .inl ⟨rfl, ⟨_, op_faW0 rfl (hs 3 rfl), rfl⟩⟩
            | 1, _, _ => exact .inl ⟨rfl, wp_b hdec (op_ldb rfl rfl (hd 0 rfl) ((HE.out.to hb).get 1 rfl).a0)⟩
            | i + 2, h, _ => omega
          · intro vs X7 hb hv hal hne
            replace HB := Hd.mk (bel_then HB.out hb)
            replace HE : Hd (Env X7 [⟨w.heap.size, 70, [zC (n / (zgcd n d))]⟩, ⟨w.heap.size + 1, 70, [zC (d / (zgcd n d))]⟩, ⟨w.heap.size + 1 + 1, 103, [aC, aC]⟩, ⟨g5, 70, [zC (zgcd n d)]⟩]) := ⟨HE.out.to hb⟩
            have e25 : vs 25 = .bool false := hv 1 (by decide) rfl
            simp only [putAll, List.foldl_cons, List.foldl_nil, Act.put, List.setIfInBounds_toArray, List.set_cons_succ, List.set_cons_zero, List.drop_succ_cons, List.drop_zero, e25]
            generalize vs 24 = s24
            clear hv hal hne hb
            go_upto_region 6 with fail
            refine wp_region_vd 3 [30, 31, 32] [2] [] 70 [.bool false, .slice none 0 0] [isZ (n / (zgcd n d)), isZ (d / (zgcd n d)), isL [zC (n / (zgcd n d)), zC (d / (zgcd n d))]] (by rfl) alloc_whole ?_ ?_
            · intro i hi hA aa wx hb hs hd
              match i, hi, hA with
              | 0, _, _ => exact .inl ⟨rfl, op_ldWz rfl rfl (hs 2 rfl) ((HE.out.to hb).get 0 rfl).a0⟩
              | 1, _, _ => exact .inl ⟨rfl, op_ldWz rfl rfl (hs 3 rfl) ((HE.out.to hb).get 1 rfl).a0⟩
              | 2, _, _ => exact .inl ⟨rfl, op_bdQ rfl (isL_isZ.2 (hd 0 rfl)) (isL_isZ.2 (hd 1 rfl))⟩
              | i + 3, h, _ => omega
            · intro vs X8 hb hv hal hne
              replace HB := Hd.mk (bel_then HB.out hb)
              replace HE : Hd (Env X8 [⟨w.heap.size, 70, [zC (n / (zgcd n d))]⟩, ⟨w.heap.size + 1, 70, [zC (d / (zgcd n d))]⟩, ⟨w.heap.size + 1 + 1, 103, [aC, aC]⟩, ⟨g5, 70, [zC (zgcd n d)]⟩]) := ⟨HE.out.to hb⟩
              have t32 : (isL [zC (n / (zgcd n d)), zC (d / (zgcd n d))]).p (vs 32) X8 := hv 2 (by decide) rfl
              obtain ⟨u32, y32, p32, q32, e32, c32, k32⟩ := isL_two.1 t32
              simp only [putAll, List.foldl_cons, List.foldl_nil, Act.put, List.setIfInBounds_toArray, List.set_cons_succ, List.set_cons_zero, List.drop_succ_cons, List.drop_zero, e32]
              generalize vs 30 = s30
              generalize vs 31 = s31
              refine wpList_st rfl rfl rfl rfl rfl (sto_Q c32 k32 (HE.out.get 2 rfl)) ?_
              have HE' : Env (putAt (putAt X8 (w.heap.size + 1 + 1) 0 u32 y32) (w.heap.size + 1 + 1) 2 p32 q32) [⟨w.heap.size, 70, [zC (n / (zgcd n d))]⟩, ⟨w.heap.size + 1, 70, [zC (d / (zgcd n d))]⟩, ⟨w.heap.size + 1 + 1, 103, [zC (n / (zgcd n d)), zC (d / (zgcd n d))]⟩, ⟨g5, 70, [zC (zgcd n d)]⟩] := HE.out.put4 2 rfl c32 k32
              have HB' := below_put4 (u := u32) (v := y32) (u' := p32) (v' := q32) HB.out (show w.heap.size ≤ w.heap.size + 1 + 1 from by omega)
              generalize putAt (putAt X8 (w.heap.size + 1 + 1) 0 u32 y32) (w.heap.size + 1 + 1) 2 p32 q32 = X9 at *
              replace HE := Hd.mk HE'
              replace HB := Hd.mk HB'
              clear HE' HB'
              clear hv hal hne hb
              go_wp2_with fail
              obtain ⟨u, v, x, y, k0, k1, k2, k3, h1, h2⟩ := (HE.out.get 2 rfl).cells2
              refine bodyPost_ret (v := .agg #[u, v, x, y]) (by simp [results, Try.results132, go_sem, k0, k1, k2, k3]) rfl ?_
              rw [HNN.out] at h1
              rw [HDD.out] at h2
              exact ⟨_, rfl, HB.out, isL_two.2 ⟨_, _, _, _, rfl, h1, h2⟩⟩
set_option maxRecDepth 100000 in
theorem qmul_got (a b c d : Int) (v1 v2 : Value) (w : World) (h1 : (isL [zC a, zC b]).p v1 w) (h2 : (isL [zC c, zC d]).p v2 w) (hb0 : b ≠ 0) (hd0 : d ≠ 0) (la : ln a.natAbs ≤ 1000) (lb : ln b.natAbs ≤ 1000) (lc : ln c.natAbs ≤ 1000) (ld : ln d.natAbs ≤ 1000) :
    Calls Try.prog 101 #[v1, v2] w (Got w (isL [zC (qn (a * c) (b * d)), zC (qd (a * c) (b * d))]).p) := by
  obtain ⟨u1, x1, y1, z1, rfl, p1, q1⟩ := isL_two.1 h1
  obtain ⟨u2, x2, y2, z2, rfl, p2, q2⟩ := isL_two.1 h2
  have bac : ln (a * c).natAbs ≤ 2000 := Nat.le_trans (ln_zmul a c) (by omega)
  have bbd : ln (b * d).natAbs ≤ 2000 := Nat.le_trans (ln_zmul b d) (by omega)
  have HD0 := Hd.mk (Int.mul_ne_zero hb0 hd0)
  clear hb0 hd0
  clear h1 h2
  go_enter Try.func101, Try.ntmps101
  go_upto_region 1 with fail
  obtain ⟨W0, hW0⟩ : ∃ W : World, W = ((w.alloc (.cells #[u1, x1, y1, z1] 103)).alloc (.cells #[u2, x2, y2, z2] 103)).alloc (.cells #[Value.bool false, Value.slice none 0 0, Value.bool false, Value.slice none 0 0] 103) := ⟨_, rfl⟩
  rw [← hW0]
  obtain ⟨he, hb⟩ := env_three (cp2 p1 q1) (cp2 p2 q2) (cp2 (cpz _) (cpz _)) hW0
  have HE := Hd.mk he
  have HB := Hd.mk hb
  clear he hb hW0
  refine wp_region_vs 11 [5, 6, 7, 8, 9, 10, 11, 12, 13, 14, 15] [0, 2, 5, 7] [] 70 [.bool false, .slice none 0 0] [isV (.pointer (some ⟨w.heap.size, 0, none⟩)), isZ a, isV (.pointer (some ⟨w.heap.size + 1, 0, none⟩)), isZ c, isZ (a * c), isV (.pointer (some ⟨w.heap.size, 2, none⟩)), isZ b, isV (.pointer (some ⟨w.heap.size + 1, 2, none⟩)), isZ d, isZ (b * d), isL [zC (qn (a * c) (b * d)), zC (qd (a * c) (b * d))]] (by kernel_rfl) (by kernel_rfl) (by kernel_rfl) (by rfl) alloc_whole (fun d v c a w h => by cases d <;> exact h) ?_ ?_
  · intro i hi hA aa wx hb hs hd
    match i, hi, hA with
    | 0, _, _ => exact ⟨_, op_faQ0 rfl (hs 2 rfl), rfl⟩
    | 1, _, _ => exact op_ldWz rfl rfl (hd 0 rfl) ((HE.out.to hb).get 0 rfl).a0
    | 2, _, _ => exact ⟨_, op_faQ0 rfl (hs 3 rfl), rfl⟩
    | 3, _, _ => exact op_ldWz rfl rfl (hd 2 rfl) ((HE.out.to hb).get 1 rfl).a0
    | 4, _, _ => exact op_call2 rfl rfl Try.call67 (wmul_got a c _ _ _ (hd 1 rfl) (hd 3 rfl) (by omega) (by omega))
    | 5, _, _ => exact ⟨_, op_faQ1 rfl (hs 2 rfl), rfl⟩
    | 6, _, _ => exact op_ldWz rfl rfl (hd 5 rfl) ((HE.out.to hb).get 0 rfl).a2
    | 7, _, _ => exact ⟨_, op_faQ1 rfl (hs 3 rfl), rfl⟩
    | 8, _, _ => exact op_ldWz rfl rfl (hd 7 rfl) ((HE.out.to hb).get 1 rfl).a2
    | 9, _, _ => exact op_call2 rfl rfl Try.call67 (wmul_got b d _ _ _ (hd 6 rfl) (hd 8 rfl) (by omega) (by omega))
    | 10, _, _ => exact op_call2 rfl rfl Try.call132 (lowest_got (a * c) (b * d) _ _ _ (hd 4 rfl) (hd 9 rfl) HD0.out (by omega) (by omega))
    | i + 11, h, _ => omega
  · intro vs X1 hb hv hal hne
    replace HB := Hd.mk (bel_then HB.out hb)
    replace HE : Hd (Env X1 [⟨w.heap.size, 103, [zC a, zC b]⟩, ⟨w.heap.size + 1, 103, [zC c, zC d]⟩, ⟨w.heap.size + 1 + 1, 103, [aC, aC]⟩]) := ⟨HE.out.to hb⟩
    have t15 : (isL [zC (qn (a * c) (b * d)), zC (qd (a * c) (b * d))]).p (vs 15) X1 := hv 10 (by decide) rfl
    obtain ⟨u15, y15, p15, q15, e15, c15, k15⟩ := isL_two.1 t15
    simp only [putAll, List.foldl_cons, List.foldl_nil, Act.put, List.setIfInBounds_toArray, List.set_cons_succ, List.set_cons_zero, List.drop_succ_cons, List.drop_zero, e15]
    generalize vs 5 = s5
    generalize vs 6 = s6
    generalize vs 7 = s7
    generalize vs 8 = s8
    generalize vs 9 = s9
    generalize vs 10 = s10
    generalize vs 11 = s11
    generalize vs 12 = s12
    generalize vs 13 = s13
    generalize vs 14 = s14
    refine wpList_st rfl rfl rfl rfl rfl (sto_Q c15 k15 (HE.out.get 2 rfl)) ?_
    have HE' : Env (putAt (putAt X1 (w.heap.size + 1 + 1) 0 u15 y15) (w.heap.size + 1 + 1) 2 p15 q15) [⟨w.heap.size, 103, [zC a, zC b]⟩, ⟨w.heap.size + 1, 103, [zC c, zC d]⟩, ⟨w.heap.size + 1 + 1, 103, [zC (qn (a * c) (b * d)), zC (qd (a * c) (b * d))]⟩] := HE.out.put4 2 rfl c15 k15
    have HB' := below_put4 (u := u15) (v := y15) (u' := p15) (v' := q15) HB.out (show w.heap.size ≤ w.heap.size + 1 + 1 from by omega)
    generalize putAt (putAt X1 (w.heap.size + 1 + 1) 0 u15 y15) (w.heap.size + 1 + 1) 2 p15 q15 = X2 at *
    replace HE := Hd.mk HE'
    replace HB := Hd.mk HB'
    clear HE' HB'
    clear hv hal hne hb
    go_wp2_with fail
    obtain ⟨u, v, x, y, k0, k1, k2, k3, h1, h2⟩ := (HE.out.get 2 rfl).cells2
    refine bodyPost_ret (v := .agg #[u, v, x, y]) (by simp [results, Try.results101, go_sem, k0, k1, k2, k3]) rfl ?_
    exact ⟨_, rfl, HB.out, isL_two.2 ⟨_, _, _, _, rfl, h1, h2⟩⟩
set_option maxRecDepth 100000 in
theorem qdiv_got (a b c d : Int) (v1 v2 : Value) (w : World) (h1 : (isL [zC a, zC b]).p v1 w) (h2 : (isL [zC c, zC d]).p v2 w) (hb0 : b ≠ 0) (hc0 : c ≠ 0) (la : ln a.natAbs ≤ 1000) (lb : ln b.natAbs ≤ 1000) (lc : ln c.natAbs ≤ 1000) (ld : ln d.natAbs ≤ 1000) :
    Calls Try.prog 105 #[v1, v2] w (Got w (isL [zC (qn (a * d) (b * c)), zC (qd (a * d) (b * c))]).p) := by
  obtain ⟨u1, x1, y1, z1, rfl, p1, q1⟩ := isL_two.1 h1
  obtain ⟨u2, x2, y2, z2, rfl, p2, q2⟩ := isL_two.1 h2
  have bad : ln (a * d).natAbs ≤ 2000 := Nat.le_trans (ln_zmul a d) (by omega)
  have bbc : ln (b * c).natAbs ≤ 2000 := Nat.le_trans (ln_zmul b c) (by omega)
  have HD0 := Hd.mk (Int.mul_ne_zero hb0 hc0)
  clear hb0 hc0
  clear h1 h2
  go_enter Try.func105, Try.ntmps105
  go_upto_region 1 with fail
  obtain ⟨W0, hW0⟩ : ∃ W : World, W = ((w.alloc (.cells #[u1, x1, y1, z1] 103)).alloc (.cells #[u2, x2, y2, z2] 103)).alloc (.cells #[Value.bool false, Value.slice none 0 0, Value.bool false, Value.slice none 0 0] 103) := ⟨_, rfl⟩
  rw [← hW0]
  obtain ⟨he, hb⟩ := env_three (cp2 p1 q1) (cp2 p2 q2) (cp2 (cpz _) (cpz _)) hW0
  have HE := Hd.mk he
  have HB := Hd.mk hb
  clear he hb hW0
  refine wp_region_vs 11 [5, 6, 7, 8, 9, 10, 11, 12, 13, 14, 15] [0, 2, 5, 7] [] 70 [.bool false, .slice none 0 0] [isV (.pointer (some ⟨w.heap.size, 0, none⟩)), isZ a, isV (.pointer (some ⟨w.heap.size + 1, 2, none⟩)), isZ d, isZ (a * d), isV (.pointer (some ⟨w.heap.size, 2, none⟩)), isZ b, isV (.pointer (some ⟨w.heap.size + 1, 0, none⟩)), isZ c, isZ (b * c), isL [zC (qn (a * d) (b * c)), zC (qd (a * d) (b * c))]] (by kernel_rfl) (by kernel_rfl) (by kernel_rfl) (by rfl) alloc_whole (fun d v c a w h => by cases d <;> exact h) ?_ ?_
  · intro i hi hA aa wx hb hs hd
    match i, hi, hA with
    | 0, _, _ => exact ⟨_, op_faQ0 rfl (hs 2 rfl), rfl⟩
    | 1, _, _ => exact op_ldWz rfl rfl (hd 0 rfl) ((HE.out.to hb).get 0 rfl).a0
    | 2, _, _ => exact ⟨_, op_faQ1 rfl (hs 3 rfl), rfl⟩
    | 3, _, _ => exact op_ldWz rfl rfl (hd 2 rfl) ((HE.out.to hb).get 1 rfl).a2
    | 4, _, _ => exact op_call2 rfl rfl Try.call67 (wmul_got a d _ _ _ (hd 1 rfl) (hd 3 rfl) (by omega) (by omega))
    | 5, _, _ => exact ⟨_, op_faQ1 rfl (hs 2 rfl), rfl⟩
    | 6, _, _ => exact op_ldWz rfl rfl (hd 5 rfl) ((HE.out.to hb).get 0 rfl).a2
    | 7, _, _ => exact ⟨_, op_faQ0 rfl (hs 3 rfl), rfl⟩
    | 8, _, _ => exact op_ldWz rfl rfl (hd 7 rfl) ((HE.out.to hb).get 1 rfl).a0
    | 9, _, _ => exact op_call2 rfl rfl Try.call67 (wmul_got b c _ _ _ (hd 6 rfl) (hd 8 rfl) (by omega) (by omega))
    | 10, _, _ => exact op_call2 rfl rfl Try.call132 (lowest_got (a * d) (b * c) _ _ _ (hd 4 rfl) (hd 9 rfl) HD0.out (by omega) (by omega))
    | i + 11, h, _ => omega
  · intro vs X1 hb hv hal hne
    replace HB := Hd.mk (bel_then HB.out hb)
    replace HE : Hd (Env X1 [⟨w.heap.size, 103, [zC a, zC b]⟩, ⟨w.heap.size + 1, 103, [zC c, zC d]⟩, ⟨w.heap.size + 1 + 1, 103, [aC, aC]⟩]) := ⟨HE.out.to hb⟩
    have t15 : (isL [zC (qn (a * d) (b * c)), zC (qd (a * d) (b * c))]).p (vs 15) X1 := hv 10 (by decide) rfl
    obtain ⟨u15, y15, p15, q15, e15, c15, k15⟩ := isL_two.1 t15
    simp only [putAll, List.foldl_cons, List.foldl_nil, Act.put, List.setIfInBounds_toArray, List.set_cons_succ, List.set_cons_zero, List.drop_succ_cons, List.drop_zero, e15]
    generalize vs 5 = s5
    generalize vs 6 = s6
    generalize vs 7 = s7
    generalize vs 8 = s8
    generalize vs 9 = s9
    generalize vs 10 = s10
    generalize vs 11 = s11
    generalize vs 12 = s12
    generalize vs 13 = s13
    generalize vs 14 = s14
    refine wpList_st rfl rfl rfl rfl rfl (sto_Q c15 k15 (HE.out.get 2 rfl)) ?_
    have HE' : Env (putAt (putAt X1 (w.heap.size + 1 + 1) 0 u15 y15) (w.heap.size + 1 + 1) 2 p15 q15) [⟨w.heap.size, 103, [zC a, zC b]⟩, ⟨w.heap.size + 1, 103, [zC c, zC d]⟩, ⟨w.heap.size + 1 + 1, 103, [zC (qn (a * d) (b * c)), zC (qd (a * d) (b * c))]⟩] := HE.out.put4 2 rfl c15 k15
    have HB' := below_put4 (u := u15) (v := y15) (u' := p15) (v' := q15) HB.out (show w.heap.size ≤ w.heap.size + 1 + 1 from by omega)
    generalize putAt (putAt X1 (w.heap.size + 1 + 1) 0 u15 y15) (w.heap.size + 1 + 1) 2 p15 q15 = X2 at *
    replace HE := Hd.mk HE'
    replace HB := Hd.mk HB'
    clear HE' HB'
    clear hv hal hne hb
    go_wp2_with fail
    obtain ⟨u, v, x, y, k0, k1, k2, k3, h1, h2⟩ := (HE.out.get 2 rfl).cells2
    refine bodyPost_ret (v := .agg #[u, v, x, y]) (by simp [results, Try.results105, go_sem, k0, k1, k2, k3]) rfl ?_
    exact ⟨_, rfl, HB.out, isL_two.2 ⟨_, _, _, _, rfl, h1, h2⟩⟩
set_option maxRecDepth 100000 in
theorem qadd_got (a b c d : Int) (v1 v2 : Value) (w : World) (h1 : (isL [zC a, zC b]).p v1 w) (h2 : (isL [zC c, zC d]).p v2 w) (hb0 : b ≠ 0) (hd0 : d ≠ 0) (la : ln a.natAbs ≤ 1000) (lb : ln b.natAbs ≤ 1000) (lc : ln c.natAbs ≤ 1000) (ld : ln d.natAbs ≤ 1000) :
    Calls Try.prog 100 #[v1, v2] w (Got w (isL [zC (qn (a * d + c * b) (b * d)), zC (qd (a * d + c * b) (b * d))]).p) := by
  obtain ⟨u1, x1, y1, z1, rfl, p1, q1⟩ := isL_two.1 h1
  obtain ⟨u2, x2, y2, z2, rfl, p2, q2⟩ := isL_two.1 h2
  have bad : ln (a * d).natAbs ≤ 2000 := Nat.le_trans (ln_zmul a d) (by omega)
  have bcb : ln (c * b).natAbs ≤ 2000 := Nat.le_trans (ln_zmul c b) (by omega)
  have bbd : ln (b * d).natAbs ≤ 2000 := Nat.le_trans (ln_zmul b d) (by omega)
  have bs : ln (a * d + c * b).natAbs ≤ 2001 := Nat.le_trans (ln_zadd _ _) (by omega)
  have HD0 := Hd.mk (Int.mul_ne_zero hb0 hd0)
  clear hb0 hd0
  clear h1 h2
  go_enter Try.func100, Try.ntmps100
  go_upto_region 1 with fail
  obtain ⟨W0, hW0⟩ : ∃ W : World, W = ((w.alloc (.cells #[u1, x1, y1, z1] 103)).alloc (.cells #[u2, x2, y2, z2] 103)).alloc (.cells #[Value.bool false, Value.slice none 0 0, Value.bool false, Value.slice none 0 0] 103) := ⟨_, rfl⟩
  rw [← hW0]
  obtain ⟨he, hb⟩ := env_three (cp2 p1 q1) (cp2 p2 q2) (cp2 (cpz _) (cpz _)) hW0
  have HE := Hd.mk he
  have HB := Hd.mk hb
  clear he hb hW0
  refine wp_region_vs 17 [5, 6, 7, 8, 9, 10, 11, 12, 13, 14, 15, 16, 17, 18, 19, 20, 21] [0, 2, 5, 7, 11, 13] [] 70 [.bool false, .slice none 0 0] [isV (.pointer (some ⟨w.heap.size, 0, none⟩)), isZ a, isV (.pointer (some ⟨w.heap.size + 1, 2, none⟩)), isZ d, isZ (a * d), isV (.pointer (some ⟨w.heap.size + 1, 0, none⟩)), isZ c, isV (.pointer (some ⟨w.heap.size, 2, none⟩)), isZ b, isZ (c * b), isZ ((a * d) + (c * b)), isV (.pointer (some ⟨w.heap.size, 2, none⟩)), isZ b, isV (.pointer (some ⟨w.heap.size + 1, 2, none⟩)), isZ d, isZ (b * d), isL [zC (qn ((a * d) + (c * b)) (b * d)), zC (qd ((a * d) + (c * b)) (b * d))]] (by kernel_rfl) (by kernel_rfl) (by kernel_rfl) (by rfl) alloc_whole (fun d v c a w h => by cases d <;> exact h) ?_ ?_
  · intro i hi hA aa wx hb hs hd
    match i, hi, hA with
    | 0, _, _ => exact ⟨_, op_faQ0 rfl (hs 2 rfl), rfl⟩
    | 1, _, _ => exact op_ldWz rfl rfl (hd 0 rfl) ((HE.out.to hb).get 0 rfl).a0
    | 2, _, _ => exact ⟨_, op_faQ1 rfl (hs 3 rfl), rfl⟩
    | 3, _, _ => exact op_ldWz rfl rfl (hd 2 rfl) ((HE.out.to hb).get 1 rfl).a2
    | 4, _, _ => exact op_call2 rfl rfl Try.call67 (wmul_got a d _ _ _ (hd 1 rfl) (hd 3 rfl) (by omega) (by omega))
    | 5, _, _ => exact ⟨_, op_faQ0 rfl (hs 3 rfl), rfl⟩
    | 6, _, _ => exact op_ldWz rfl rfl (hd 5 rfl) ((HE.out.to hb).get 1 rfl).a0
    | 7, _, _ => exact ⟨_, op_faQ1 rfl (hs 2 rfl), rfl⟩
    | 8, _, _ => exact op_ldWz rfl rfl (hd 7 rfl) ((HE.out.to hb).get 0 rfl).a2
    | 9, _, _ => exact op_call2 rfl rfl Try.call67 (wmul_got c b _ _ _ (hd 6 rfl) (hd 8 rfl) (by omega) (by omega))
    | 10, _, _ => exact op_call2 rfl rfl Try.call64 (wadd_got (a * d) (c * b) _ _ _ (hd 4 rfl) (hd 9 rfl) (by omega) (by omega))
    | 11, _, _ => exact ⟨_, op_faQ1 rfl (hs 2 rfl), rfl⟩
    | 12, _, _ => exact op_ldWz rfl rfl (hd 11 rfl) ((HE.out.to hb).get 0 rfl).a2
    | 13, _, _ => exact ⟨_, op_faQ1 rfl (hs 3 rfl), rfl⟩
    | 14, _, _ => exact op_ldWz rfl rfl (hd 13 rfl) ((HE.out.to hb).get 1 rfl).a2
    | 15, _, _ => exact op_call2 rfl rfl Try.call67 (wmul_got b d _ _ _ (hd 12 rfl) (hd 14 rfl) (by omega) (by omega))
    | 16, _, _ => exact op_call2 rfl rfl Try.call132 (lowest_got ((a * d) + (c * b)) (b * d) _ _ _ (hd 10 rfl) (hd 15 rfl) HD0.out (by omega) (by omega))
    | i + 17, h, _ => omega
  · intro vs X1 hb hv hal hne
    replace HB := Hd.mk (bel_then HB.out hb)
    replace HE : Hd (Env X1 [⟨w.heap.size, 103, [zC a, zC b]⟩, ⟨w.heap.size + 1, 103, [zC c, zC d]⟩, ⟨w.heap.size + 1 + 1, 103, [aC, aC]⟩]) := ⟨HE.out.to hb⟩
    have t21 : (isL [zC (qn ((a * d) + (c * b)) (b * d)), zC (qd ((a * d) + (c * b)) (b * d))]).p (vs 21) X1 := hv 16 (by decide) rfl
    obtain ⟨u21, y21, p21, q21, e21, c21, k21⟩ := isL_two.1 t21
    simp only [putAll, List.foldl_cons, List.foldl_nil, Act.put, List.setIfInBounds_toArray, List.set_cons_succ, List.set_cons_zero, List.drop_succ_cons, List.drop_zero, e21]
    generalize vs 5 = s5
    generalize vs 6 = s6
    generalize vs 7 = s7
    generalize vs 8 = s8
    generalize vs 9 = s9
    generalize vs 10 = s10
    generalize vs 11 = s11
    generalize vs 12 = s12
    generalize vs 13 = s13
    generalize vs 14 = s14
    generalize vs 15 = s15
    generalize vs 16 = s16
    generalize vs 17 = s17
    generalize vs 18 = s18
    generalize vs 19 = s19
    generalize vs 20 = s20
    refine wpList_st rfl rfl rfl rfl rfl (sto_Q c21 k21 (HE.out.get 2 rfl)) ?_
    have HE' : Env (putAt (putAt X1 (w.heap.size + 1 + 1) 0 u21 y21) (w.heap.size + 1 + 1) 2 p21 q21) [⟨w.heap.size, 103, [zC a, zC b]⟩, ⟨w.heap.size + 1, 103, [zC c, zC d]⟩, ⟨w.heap.size + 1 + 1, 103, [zC (qn ((a * d) + (c * b)) (b * d)), zC (qd ((a * d) + (c * b)) (b * d))]⟩] := HE.out.put4 2 rfl c21 k21
    have HB' := below_put4 (u := u21) (v := y21) (u' := p21) (v' := q21) HB.out (show w.heap.size ≤ w.heap.size + 1 + 1 from by omega)
    generalize putAt (putAt X1 (w.heap.size + 1 + 1) 0 u21 y21) (w.heap.size + 1 + 1) 2 p21 q21 = X2 at *
    replace HE := Hd.mk HE'
    replace HB := Hd.mk HB'
    clear HE' HB'
    clear hv hal hne hb
    go_wp2_with fail
    obtain ⟨u, v, x, y, k0, k1, k2, k3, h1, h2⟩ := (HE.out.get 2 rfl).cells2
    refine bodyPost_ret (v := .agg #[u, v, x, y]) (by simp [results, Try.results100, go_sem, k0, k1, k2, k3]) rfl ?_
    exact ⟨_, rfl, HB.out, isL_two.2 ⟨_, _, _, _, rfl, h1, h2⟩⟩
set_option maxRecDepth 100000 in
theorem qsub_got (a b c d : Int) (v1 v2 : Value) (w : World) (h1 : (isL [zC a, zC b]).p v1 w) (h2 : (isL [zC c, zC d]).p v2 w) (hb0 : b ≠ 0) (hd0 : d ≠ 0) (la : ln a.natAbs ≤ 1000) (lb : ln b.natAbs ≤ 1000) (lc : ln c.natAbs ≤ 1000) (ld : ln d.natAbs ≤ 1000) :
    Calls Try.prog 106 #[v1, v2] w (Got w (isL [zC (qn (a * d + -c * b) (b * d)), zC (qd (a * d + -c * b) (b * d))]).p) := by
  obtain ⟨u1, x1, y1, z1, rfl, p1, q1⟩ := isL_two.1 h1
  obtain ⟨u2, x2, y2, z2, rfl, p2, q2⟩ := isL_two.1 h2
  have lc2 : ln (-c).natAbs ≤ 1000 := by rw [ln_zneg]; exact lc
  have HB0 := Hd.mk hb0
  have HD0 := Hd.mk hd0
  clear hb0 hd0
  clear h1 h2
  go_enter Try.func106, Try.ntmps106
  go_upto_region 1 with fail
  obtain ⟨W0, hW0⟩ : ∃ W : World, W = ((w.alloc (.cells #[u1, x1, y1, z1] 103)).alloc (.cells #[u2, x2, y2, z2] 103)).alloc (.cells #[Value.bool false, Value.slice none 0 0, Value.bool false, Value.slice none 0 0] 103) := ⟨_, rfl⟩
  rw [← hW0]
  obtain ⟨he, hb⟩ := env_three (cp2 p1 q1) (cp2 p2 q2) (cp2 (cpz _) (cpz _)) hW0
  have HE := Hd.mk he
  have HB := Hd.mk hb
  clear he hb hW0
  refine wp_region_vs 8 [5, 6, 7, 8, 9, 10, 11, 12] [1, 4, 6] [] 70 [.bool false, .slice none 0 0] [isL [zC a, zC b], isV (.pointer (some ⟨w.heap.size + 1, 0, none⟩)), isZ c, isZ (-c), isV (.pointer (some ⟨w.heap.size + 1, 2, none⟩)), isZ d, isL [zC (-c), zC d], isL [zC (qn (a * d + -c * b) (b * d)), zC (qd (a * d + -c * b) (b * d))]] (by kernel_rfl) (by kernel_rfl) (by kernel_rfl) (by rfl) alloc_whole (fun d v c a w h => by cases d <;> exact h) ?_ ?_
  · intro i hi hA aa wx hb hs hd
    match i, hi, hA with
    | 0, _, _ => exact op_ldQ rfl rfl (hs 2 rfl) ((HE.out.to hb).get 0 rfl)
    | 1, _, _ => exact ⟨_, op_faQ0 rfl (hs 3 rfl), rfl⟩
    | 2, _, _ => exact op_ldWz rfl rfl (hd 1 rfl) ((HE.out.to hb).get 1 rfl).a0
    | 3, _, _ => exact op_call1 rfl rfl Try.call92 (wminus_got c _ _ (hd 2 rfl))
    | 4, _, _ => exact ⟨_, op_faQ1 rfl (hs 3 rfl), rfl⟩
    | 5, _, _ => exact op_ldWz rfl rfl (hd 4 rfl) ((HE.out.to hb).get 1 rfl).a2
    | 6, _, _ => exact op_bdQ rfl (isL_isZ.2 (hd 3 rfl)) (isL_isZ.2 (hd 5 rfl))
    | 7, _, _ => exact op_call2 rfl rfl Try.call100 (qadd_got a b (-c) d _ _ _ (hd 0 rfl) (hd 6 rfl) HB0.out HD0.out la lb lc2 ld)
    | i + 8, h, _ => omega
  · intro vs X1 hb hv hal hne
    replace HB := Hd.mk (bel_then HB.out hb)
    replace HE : Hd (Env X1 [⟨w.heap.size, 103, [zC a, zC b]⟩, ⟨w.heap.size + 1, 103, [zC c, zC d]⟩, ⟨w.heap.size + 1 + 1, 103, [aC, aC]⟩]) := ⟨HE.out.to hb⟩
    have t12 : (isL [zC (qn (a * d + -c * b) (b * d)), zC (qd (a * d + -c * b) (b * d))]).p (vs 12) X1 := hv 7 (by decide) rfl
    obtain ⟨u12, y12, p12, q12, e12, c12, k12⟩ := isL_two.1 t12
    simp only [putAll, List.foldl_cons, List.foldl_nil, Act.put, List.setIfInBounds_toArray, List.set_cons_succ, List.set_cons_zero, List.drop_succ_cons, List.drop_zero, e12]
    generalize vs 5 = s5
    generalize vs 6 = s6
    generalize vs 7 = s7
    generalize vs 8 = s8
    generalize vs 9 = s9
    generalize vs 10 = s10
    generalize vs 11 = s11
    refine wpList_st rfl rfl rfl rfl rfl (sto_Q c12 k12 (HE.out.get 2 rfl)) ?_
    have HE' : Env (putAt (putAt X1 (w.heap.size + 1 + 1) 0 u12 y12) (w.heap.size + 1 + 1) 2 p12 q12) [⟨w.heap.size, 103, [zC a, zC b]⟩, ⟨w.heap.size + 1, 103, [zC c, zC d]⟩, ⟨w.heap.size + 1 + 1, 103, [zC (qn (a * d + -c * b) (b * d)), zC (qd (a * d + -c * b) (b * d))]⟩] := HE.out.put4 2 rfl c12 k12
    have HB' := below_put4 (u := u12) (v := y12) (u' := p12) (v' := q12) HB.out (show w.heap.size ≤ w.heap.size + 1 + 1 from by omega)
    generalize putAt (putAt X1 (w.heap.size + 1 + 1) 0 u12 y12) (w.heap.size + 1 + 1) 2 p12 q12 = X2 at *
    replace HE := Hd.mk HE'
    replace HB := Hd.mk HB'
    clear HE' HB'
    clear hv hal hne hb
    go_wp2_with fail
    obtain ⟨u, v, x, y, k0, k1, k2, k3, h1, h2⟩ := (HE.out.get 2 rfl).cells2
    refine bodyPost_ret (v := .agg #[u, v, x, y]) (by simp [results, Try.results106, go_sem, k0, k1, k2, k3]) rfl ?_
    exact ⟨_, rfl, HB.out, isL_two.2 ⟨_, _, _, _, rfl, h1, h2⟩⟩
set_option maxRecDepth 100000 in
theorem qcmp_got (a b c d : Int) (v1 v2 : Value) (w : World) (h1 : (isL [zC a, zC b]).p v1 w) (h2 : (isL [zC c, zC d]).p v2 w) (la : ln a.natAbs ≤ 1000) (lb : ln b.natAbs ≤ 1000) (lc : ln c.natAbs ≤ 1000) (ld : ln d.natAbs ≤ 1000) :
    Calls Try.prog 107 #[v1, v2] w (Got w (isV (.int .i64 (sgnv (a * d - c * b)))).p) := by
  obtain ⟨u1, x1, y1, z1, rfl, p1, q1⟩ := isL_two.1 h1
  obtain ⟨u2, x2, y2, z2, rfl, p2, q2⟩ := isL_two.1 h2
  have bad : ln (a * d).natAbs ≤ 2000 := Nat.le_trans (ln_zmul a d) (by omega)
  have bcb : ln (c * b).natAbs ≤ 2000 := Nat.le_trans (ln_zmul c b) (by omega)
  clear h1 h2
  go_enter Try.func107, Try.ntmps107
  go_upto_region 1 with fail
  obtain ⟨W0, hW0⟩ : ∃ W : World, W = (w.alloc (.cells #[u1, x1, y1, z1] 103)).alloc (.cells #[u2, x2, y2, z2] 103) := ⟨_, rfl⟩
  rw [← hW0]
  obtain ⟨he, hb⟩ := env_two (cp2 p1 q1) (cp2 p2 q2) hW0
  have HE := Hd.mk he
  have HB := Hd.mk hb
  clear he hb hW0
  refine wp_region_vs 11 [5, 6, 7, 8, 9, 10, 11, 12, 13, 14, 15] [0, 2, 5, 7] [] 70 [.bool false, .slice none 0 0] [isV (.pointer (some ⟨w.heap.size, 0, none⟩)), isZ a, isV (.pointer (some ⟨w.heap.size + 1, 2, none⟩)), isZ d, isZ (a * d), isV (.pointer (some ⟨w.heap.size + 1, 0, none⟩)), isZ c, isV (.pointer (some ⟨w.heap.size, 2, none⟩)), isZ b, isZ (c * b), isV (.int .i64 (sgnv ((a * d) - (c * b))))] (by kernel_rfl) (by kernel_rfl) (by kernel_rfl) (by rfl) alloc_whole (fun d v c a w h => by cases d <;> exact h) ?_ ?_
  · intro i hi hA aa wx hb hs hd
    match i, hi, hA with
    | 0, _, _ => exact ⟨_, op_faQ0 rfl (hs 2 rfl), rfl⟩
    | 1, _, _ => exact op_ldWz rfl rfl (hd 0 rfl) ((HE.out.to hb).get 0 rfl).a0
    | 2, _, _ => exact ⟨_, op_faQ1 rfl (hs 3 rfl), rfl⟩
    | 3, _, _ => exact op_ldWz rfl rfl (hd 2 rfl) ((HE.out.to hb).get 1 rfl).a2
    | 4, _, _ => exact op_call2 rfl rfl Try.call67 (wmul_got a d _ _ _ (hd 1 rfl) (hd 3 rfl) (by omega) (by omega))
    | 5, _, _ => exact ⟨_, op_faQ0 rfl (hs 3 rfl), rfl⟩
    | 6, _, _ => exact op_ldWz rfl rfl (hd 5 rfl) ((HE.out.to hb).get 1 rfl).a0
    | 7, _, _ => exact ⟨_, op_faQ1 rfl (hs 2 rfl), rfl⟩
    | 8, _, _ => exact op_ldWz rfl rfl (hd 7 rfl) ((HE.out.to hb).get 0 rfl).a2
    | 9, _, _ => exact op_call2 rfl rfl Try.call67 (wmul_got c b _ _ _ (hd 6 rfl) (hd 8 rfl) (by omega) (by omega))
    | 10, _, _ => exact op_call2 rfl rfl Try.call74 (wcmp_got (a * d) (c * b) _ _ _ (hd 4 rfl) (hd 9 rfl))
    | i + 11, h, _ => omega
  · intro vs X1 hb hv hal hne
    replace HB := Hd.mk (bel_then HB.out hb)
    replace HE : Hd (Env X1 [⟨w.heap.size, 103, [zC a, zC b]⟩, ⟨w.heap.size + 1, 103, [zC c, zC d]⟩]) := ⟨HE.out.to hb⟩
    have e15 : vs 15 = .int .i64 (sgnv ((a * d) - (c * b))) := hv 10 (by decide) rfl
    simp only [putAll, List.foldl_cons, List.foldl_nil, Act.put, List.setIfInBounds_toArray, List.set_cons_succ, List.set_cons_zero, List.drop_succ_cons, List.drop_zero, e15]
    generalize vs 5 = s5
    generalize vs 6 = s6
    generalize vs 7 = s7
    generalize vs 8 = s8
    generalize vs 9 = s9
    generalize vs 10 = s10
    generalize vs 11 = s11
    generalize vs 12 = s12
    generalize vs 13 = s13
    generalize vs 14 = s14
    clear hv hal hne hb
    go_wp2_with fail
    go_ret
    exact ⟨_, rfl, HB.out, rfl⟩
end Go.Proofs.Ytcjcpfafalkceaa
