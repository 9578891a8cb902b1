/- Part 18 of the texts behind this claim. -/
import Derived.Test.YtddbmckbankmeaaKq1
import Derived.Test.YtddbmckbankmeaaKq17
set_option linter.unusedVariables false
set_option linter.unusedSimpArgs false
namespace Go.Proofs.Ytddbmckbankmeaa
open Go.RowKit
theorem knm_str : ∀ n, ∃ s, knm n = .string s
  | 0 => ⟨_, rfl⟩
  | 1 => ⟨_, rfl⟩
  | 2 => ⟨_, rfl⟩
  | 3 => ⟨_, rfl⟩
  | 4 => ⟨_, rfl⟩
  | 5 => ⟨_, rfl⟩
  | 6 => ⟨_, rfl⟩
  | 7 => ⟨_, rfl⟩
  | 8 => ⟨_, rfl⟩
  | 9 => ⟨_, rfl⟩
  | 10 => ⟨_, rfl⟩
  | n + 11 => ⟨_, rfl⟩
theorem op_eqlSS {o : Oper} {a : Act} {x y : Operand} {ty : TypeId} {v : Value} (hv : ∃ s, v = .string s) (ho : o.op = .binOp .eql 9 x y ty) (hx : a.eval x = v) (hy : a.eval y = v) (w : World) : (execOp a.eval o).run Try.prog w = .ok (.value (.bool true)) w := by
  obtain ⟨s, rfl⟩ := hv
  generalize a.eval = ev at hx hy ⊢
  unfold execOp
  simp only [ho, hx, hy]
  simp [go_sem]
section
variable {W H : Int} {xs : List Int} {v2 : Value} {w : World}
theorem valid_ad {A : Option Addr} (hv : validB W H xs = true) (hr : RI w A xs) : ∃ ad, A = some ad := by
  have h1 := valid_len hv
  have h2 := sizeB_bounds (valid_size hv)
  have h3 := Int.mul_pos (show 0 < W by omega) (show 0 < H by omega)
  obtain ⟨ad, e, _⟩ := hr.at_ (k := 0) (by omega)
  exact ⟨ad, e⟩
theorem Kind_rd_ok (hv : validB W H xs = true) (hW : 1 ≤ W ∧ W ≤ 6) (hH : 1 ≤ H ∧ H ≤ 6) (h2 : (rdS W H xs).p v2 w) : Calls Try.prog 34 #[v2] w (Got w (isP (isV (knm (kindF (colF W H xs)))) (isV (.int .i64 0))).p) := by
  obtain ⟨A, k, rfl, hr⟩ := h2
  obtain ⟨ad, rfl⟩ := valid_ad hv hr
  exact Kind_ok W H ad k xs hW hH w hr hv
theorem Kind_rd_arg (hv : validB W H xs = false) (h2 : (rdS W H xs).p v2 w) : Calls Try.prog 34 #[v2] w (Got w (isP (isV (.string { data := #[] })) (isV (.int .i64 2))).p) := by
  obtain ⟨A, k, rfl, hr⟩ := h2
  exact Kind_arg W H A k xs w hr hv
theorem Kind_rd_big (hv : validB W H xs = true) (hb : 6 < W ∨ 6 < H) (h2 : (rdS W H xs).p v2 w) : Calls Try.prog 34 #[v2] w (Got w (isP (isV (.string { data := #[] })) (isV (.int .i64 3))).p) := by
  obtain ⟨A, k, rfl, hr⟩ := h2
  exact Kind_big W H A k xs hb w hr hv
theorem rKind_rd (hv : validB W H xs = true) (hW : 1 ≤ W ∧ W ≤ 6) (hH : 1 ≤ H ∧ H ≤ 6) (h2 : (rdS W H xs).p v2 w) : Calls Try.prog 35 #[v2] w (Got w (isV (knm (kindF (colF W H xs)))).p) := by
  obtain ⟨A, k, rfl, hr⟩ := h2
  obtain ⟨ad, rfl⟩ := valid_ad hv hr
  exact rKind_got W H ad k xs hW hH w hr (valid_len hv)
end
set_option maxRecDepth 100000 in
set_option maxHeartbeats 1000000 in
theorem Kinds_ok (Wd Ht : Int) (A : Option Addr) (k : Nat) (xs : List Int) (w : World) (hri : RI w A xs) (hlk : xs.length ≤ k) (hA : A = none → k = 0) (hv : validB Wd Ht xs = true) (hW : 1 ≤ Wd ∧ Wd ≤ 6) (hH : 1 ≤ Ht ∧ Ht ≤ 6) :
    Calls Try.prog 7 #[.agg #[.int .i64 Wd, .int .i64 Ht, .slice A xs.length k]] w (Got w (isV (.bool true)).p) := by
  have HRI := Hd.mk hri
  clear hri
  have hsh := valid_short hv
  have HSTY := Hd.mk (fun W (h : RI W A xs) => (show Calls Try.prog 15 #[_] W (Got W (isSt W.heap.size Wd Ht xs).p) from by have q := stamps_got Wd Ht A k xs W h hlk hA; rwa [List.take_of_length_le (by omega)] at q))
  have HV := Hd.mk hv
  have HW := Hd.mk hW
  have HH := Hd.mk hH
  clear hv
  go_enter Try.func7, Try.ntmps7
  go_upto_region 1 with fail
  obtain ⟨W0, hW0⟩ : ∃ W : World, W = w.alloc (.cells #[.int .i64 Wd, .int .i64 Ht, .slice A xs.length k] 24) := ⟨_, rfl⟩
  rw [← hW0]
  obtain ⟨he, hb⟩ := env_one hW0
  have HE := Hd.mk he
  have HB := Hd.mk hb
  clear he hb hW0
  refine wp_region_vd 6 [6, 7, 8, 5, 9, 10] [3, 4, 5] [] 84 [.int .i64 0, .int .i64 0] [isV (.agg #[.int .i64 Wd, .int .i64 Ht, .slice A xs.length k]), isSt W0.heap.size Wd Ht xs, isP (isV (knm (kindF (colF Wd Ht xs)))) (isV (.int .i64 0)), isP (isV (knm (kindF (colF Wd Ht xs)))) (isV (.int .i64 0)), isV (knm (kindF (colF Wd Ht xs))), isV (.int .i64 0)] (by rfl) alloc_Z ?_ ?_
  · intro qi qh qA aa wx hb hs hd
    match qi, qh, qA with
    | 0, _, _ => exact .inl ⟨rfl, op_ldU rfl rfl (hs 1 rfl) ((HE.out.to hb).get 0 rfl)⟩
    | 1, _, _ => exact .inl ⟨rfl, op_call1 rfl rfl Try.call15 (by rw [(show aa.eval (.tmp 6) = .agg #[.int .i64 Wd, .int .i64 Ht, .slice A xs.length k] from (hd 0 rfl))]; exact got_st hb.size (HSTY.out _ (HRI.out.to (bel_then HB.out hb))))⟩
    | 2, _, _ => exact .inl ⟨rfl, op_call1 rfl rfl Try.call34 (Kind_rd_ok HV.out HW.out HH.out (rd_st (hd 1 rfl)))⟩
    | 3, _, _ => exact .inl ⟨rfl, op_mv rfl (hd 2 rfl)⟩
    | 4, _, _ => exact .inl ⟨rfl, op_fst rfl (hd 3 rfl)⟩
    | 5, _, _ => exact .inl ⟨rfl, op_snd rfl (hd 3 rfl)⟩
    | qi + 6, h, _ => omega
  · intro vs X1 hb hv hal hne
    have HL0 := Hd.mk (HE.out.lt)
    have HBW := HB
    replace HB := Hd.mk (bel_then HB.out hb)
    replace HE : Hd (Env X1 [⟨w.heap.size, 24, [.int .i64 Wd, .int .i64 Ht, .slice A xs.length k]⟩]) := ⟨HE.out.to hb⟩
    have HLS := HL0
    have e9 : vs 9 = knm (kindF (colF Wd Ht xs)) := hv 4 (by decide) rfl
    have e10 : vs 10 = .int .i64 0 := hv 5 (by decide) rfl
    simp only [putAll, List.foldl_cons, List.foldl_nil, Act.put, List.setIfInBounds_toArray, List.set_cons_succ, List.set_cons_zero, List.drop_succ_cons, List.drop_zero, e9, e10]
    generalize vs 6 = s6
    generalize vs 7 = s7
    generalize vs 8 = s8
    generalize vs 5 = s5
    clear hv hal hne hb HL0 HBW HLS e9 e10
    go_upto_region 2 with fail
    refine wp_region_vd 3 [12, 13, 14] [2] [] 84 [.int .i64 0, .int .i64 0] [isV (.agg #[.int .i64 Wd, .int .i64 Ht, .slice A xs.length k]), isV (.bool true), isV (.bool false)] (by rfl) alloc_Z ?_ ?_
    · intro qi qh qA aa wx hb hs hd
      match qi, qh, qA with
      | 0, _, _ => exact .inl ⟨rfl, op_ldU rfl rfl (hs 1 rfl) ((HE.out.to hb).get 0 rfl)⟩
      | 1, _, _ => exact .inl ⟨rfl, wp_b (bool_eq HV.out) (op_call1 rfl rfl Try.call17 (rValid_rd Wd Ht xs _ _ (rd_ex (xs := xs) (hd 0 rfl) (HRI.out.to (bel_then HB.out hb)))))⟩
      | 2, _, _ => exact .inl ⟨rfl, ⟨_, op_not rfl (hd 1 rfl), rfl⟩⟩
      | qi + 3, h, _ => omega
    · intro vs X2 hb hv hal hne
      have HL0 := Hd.mk (HE.out.lt)
      have HBW := HB
      replace HB := Hd.mk (bel_then HB.out hb)
      replace HE : Hd (Env X2 [⟨w.heap.size, 24, [.int .i64 Wd, .int .i64 Ht, .slice A xs.length k]⟩]) := ⟨HE.out.to hb⟩
      have HLS := HL0
      have e14 : vs 14 = .bool false := hv 2 (by decide) rfl
      simp only [putAll, List.foldl_cons, List.foldl_nil, Act.put, List.setIfInBounds_toArray, List.set_cons_succ, List.set_cons_zero, List.drop_succ_cons, List.drop_zero, e14]
      generalize vs 12 = s12
      generalize vs 13 = s13
      clear hv hal hne hb HL0 HBW HLS e14
      go_upto_region 4 with fail
      refine wp_region_vd 8 [25, 26, 27, 28, 29, 30, 31, 32] [0, 2, 3, 4, 6, 7] [] 84 [.int .i64 0, .int .i64 0] [isV (.pointer (some ⟨w.heap.size, 0, none⟩)), isV (.int .i64 Wd), isV (.bool false), isV (.bool false), isV (.pointer (some ⟨w.heap.size, 1, none⟩)), isV (.int .i64 Ht), isV (.bool false), isV (.bool false)] (by rfl) alloc_Z ?_ ?_
      · intro qi qh qA aa wx hb hs hd
        match qi, qh, qA with
        | 0, _, _ => exact .inl ⟨rfl, ⟨_, op_faU0 rfl (hs 1 rfl), rfl⟩⟩
        | 1, _, _ => exact .inl ⟨rfl, op_ldI rfl rfl (hd 0 rfl) ((HE.out.to hb).cell 0 0 rfl rfl)⟩
        | 2, _, _ => exact .inl ⟨rfl, pure_b (bool_eq (decide_eq_false (by have h := HW.out; omega))) (⟨_, op_gtrI rfl (hd 1 rfl) rfl, rfl⟩)⟩
        | 3, _, _ => exact .inl ⟨rfl, op_mv rfl (hd 2 rfl)⟩
        | 4, _, _ => exact .inl ⟨⟨rfl, .inl (hd 3 rfl)⟩, ⟨_, op_faU1 rfl (hs 1 rfl), rfl⟩⟩
        | 5, _, _ => exact .inl ⟨⟨rfl, .inl (hd 3 rfl)⟩, op_ldI rfl rfl (hd 4 rfl) ((HE.out.to hb).cell 0 1 rfl rfl)⟩
        | 6, _, _ => exact .inl ⟨⟨rfl, .inl (hd 3 rfl)⟩, pure_b (bool_eq (decide_eq_false (by have h := HH.out; omega))) (⟨_, op_gtrI rfl (hd 5 rfl) rfl, rfl⟩)⟩
        | 7, _, _ => exact .inl ⟨rfl, ⟨_, op_pickF rfl (hd 3 rfl) (hd 6 rfl), rfl⟩⟩
        | qi + 8, h, _ => omega
      · intro vs X3 hb hv hal hne
        have HL0 := Hd.mk (HE.out.lt)
        have HBW := HB
        replace HB := Hd.mk (bel_then HB.out hb)
        replace HE : Hd (Env X3 [⟨w.heap.size, 24, [.int .i64 Wd, .int .i64 Ht, .slice A xs.length k]⟩]) := ⟨HE.out.to hb⟩
        have HLS := HL0
        have e32 : vs 32 = .bool false := hv 7 (by decide) rfl
        simp only [putAll, List.foldl_cons, List.foldl_nil, Act.put, List.setIfInBounds_toArray, List.set_cons_succ, List.set_cons_zero, List.drop_succ_cons, List.drop_zero, e32]
        generalize vs 25 = s25
        generalize vs 26 = s26
        generalize vs 27 = s27
        generalize vs 28 = s28
        generalize vs 29 = s29
        generalize vs 30 = s30
        generalize vs 31 = s31
        clear hv hal hne hb HL0 HBW HLS e32
        go_upto_region 6 with fail
        refine wp_region_vd 11 [42, 43, 44, 45, 46, 47, 48, 49, 50, 51, 52] [0, 3, 4, 5, 6, 7, 8, 10] [] 84 [.int .i64 0, .int .i64 0] [isV (knm (kindF (colF Wd Ht xs))), isV (.agg #[.int .i64 Wd, .int .i64 Ht, .slice A xs.length k]), isV (knm (kindF (colF Wd Ht xs))), isV (.bool true), isV (.bool true), isV (.int .i64 0), isV (.bool true), isV (.bool true), isV (.bool true), isV (.bool true), isV (.bool true)] (by rfl) alloc_Z ?_ ?_
        · intro qi qh qA aa wx hb hs hd
          match qi, qh, qA with
          | 0, _, _ => exact .inl ⟨rfl, op_mv rfl (hs 3 rfl)⟩
          | 1, _, _ => exact .inl ⟨rfl, op_ldU rfl rfl (hs 1 rfl) ((HE.out.to hb).get 0 rfl)⟩
          | 2, _, _ => exact .inl ⟨rfl, op_call1 rfl rfl Try.call35 (rKind_rd HV.out HW.out HH.out (rd_ex (xs := xs) (hd 1 rfl) (HRI.out.to (bel_then HB.out hb))))⟩
          | 3, _, _ => exact .inl ⟨rfl, ⟨_, op_eqlSS (knm_str _) rfl (hd 0 rfl) (hd 2 rfl), rfl⟩⟩
          | 4, _, _ => exact .inl ⟨rfl, op_mv rfl (hd 3 rfl)⟩
          | 5, _, _ => exact .inl ⟨⟨rfl, .inl (hd 4 rfl)⟩, op_mv rfl (hs 4 rfl)⟩
          | 6, _, _ => exact .inl ⟨⟨rfl, .inl (hd 4 rfl)⟩, pure_b (bool_eq (by decide)) (⟨_, op_eqlE rfl (hd 5 rfl) rfl, rfl⟩)⟩
          | 7, _, _ => exact .inl ⟨rfl, ⟨_, op_pickT rfl (hd 4 rfl) (hd 6 rfl), rfl⟩⟩
          | 8, _, _ => exact .inl ⟨rfl, op_mv rfl (hd 7 rfl)⟩
          | 9, _, _ => exact .inl ⟨⟨rfl, .inl (hd 8 rfl)⟩, op_call0 rfl rfl Try.call18 (awake_got _)⟩
          | 10, _, _ => exact .inl ⟨rfl, ⟨_, op_pickT rfl (hd 8 rfl) (hd 9 rfl), rfl⟩⟩
          | qi + 11, h, _ => omega
        · intro vs X4 hb hv hal hne
          have HL0 := Hd.mk (HE.out.lt)
          have HBW := HB
          replace HB := Hd.mk (bel_then HB.out hb)
          replace HE : Hd (Env X4 [⟨w.heap.size, 24, [.int .i64 Wd, .int .i64 Ht, .slice A xs.length k]⟩]) := ⟨HE.out.to hb⟩
          have HLS := HL0
          have e52 : vs 52 = .bool true := hv 10 (by decide) rfl
          simp only [putAll, List.foldl_cons, List.foldl_nil, Act.put, List.setIfInBounds_toArray, List.set_cons_succ, List.set_cons_zero, List.drop_succ_cons, List.drop_zero, e52]
          generalize vs 42 = s42
          generalize vs 43 = s43
          generalize vs 44 = s44
          generalize vs 45 = s45
          generalize vs 46 = s46
          generalize vs 47 = s47
          generalize vs 48 = s48
          generalize vs 49 = s49
          generalize vs 50 = s50
          generalize vs 51 = s51
          clear hv hal hne hb HL0 HBW HLS e52
          go_wp2_with fail
          go_ret
          exact ⟨_, rfl, HB.out, rfl⟩
set_option maxRecDepth 100000 in
set_option maxHeartbeats 1000000 in
theorem Kinds_big (Wd Ht : Int) (A : Option Addr) (k : Nat) (xs : List Int) (w : World) (hri : RI w A xs) (hlk : xs.length ≤ k) (hA : A = none → k = 0) (hv : validB Wd Ht xs = true) (hbig : 6 < Wd ∨ 6 < Ht) :
    Calls Try.prog 7 #[.agg #[.int .i64 Wd, .int .i64 Ht, .slice A xs.length k]] w (Got w (isV (.bool true)).p) := by
  have HRI := Hd.mk hri
  clear hri
  have hsh := valid_short hv
  have HSTY := Hd.mk (fun W (h : RI W A xs) => (show Calls Try.prog 15 #[_] W (Got W (isSt W.heap.size Wd Ht xs).p) from by have q := stamps_got Wd Ht A k xs W h hlk hA; rwa [List.take_of_length_le (by omega)] at q))
  have HV := Hd.mk hv
  have HBG := Hd.mk hbig
  clear hv hbig
  by_cases h6 : 6 < Wd
  · go_enter Try.func7, Try.ntmps7
    go_upto_region 1 with fail
    obtain ⟨W0, hW0⟩ : ∃ W : World, W = w.alloc (.cells #[.int .i64 Wd, .int .i64 Ht, .slice A xs.length k] 24) := ⟨_, rfl⟩
    rw [← hW0]
    obtain ⟨he, hb⟩ := env_one hW0
    have HE := Hd.mk he
    have HB := Hd.mk hb
    clear he hb hW0
    refine wp_region_vd 6 [6, 7, 8, 5, 9, 10] [3, 4, 5] [] 84 [.int .i64 0, .int .i64 0] [isV (.agg #[.int .i64 Wd, .int .i64 Ht, .slice A xs.length k]), isSt W0.heap.size Wd Ht xs, isP (isV (.string { data := #[] })) (isV (.int .i64 3)), isP (isV (.string { data := #[] })) (isV (.int .i64 3)), isV (.string { data := #[] }), isV (.int .i64 3)] (by rfl) alloc_Z ?_ ?_
    · intro qi qh qA aa wx hb hs hd
      match qi, qh, qA with
      | 0, _, _ => exact .inl ⟨rfl, op_ldU rfl rfl (hs 1 rfl) ((HE.out.to hb).get 0 rfl)⟩
      | 1, _, _ => exact .inl ⟨rfl, op_call1 rfl rfl Try.call15 (by rw [(show aa.eval (.tmp 6) = .agg #[.int .i64 Wd, .int .i64 Ht, .slice A xs.length k] from (hd 0 rfl))]; exact got_st hb.size (HSTY.out _ (HRI.out.to (bel_then HB.out hb))))⟩
      | 2, _, _ => exact .inl ⟨rfl, op_call1 rfl rfl Try.call34 (Kind_rd_big HV.out HBG.out (rd_st (hd 1 rfl)))⟩
      | 3, _, _ => exact .inl ⟨rfl, op_mv rfl (hd 2 rfl)⟩
      | 4, _, _ => exact .inl ⟨rfl, op_fst rfl (hd 3 rfl)⟩
      | 5, _, _ => exact .inl ⟨rfl, op_snd rfl (hd 3 rfl)⟩
      | qi + 6, h, _ => omega
    · intro vs X1 hb hv hal hne
      have HL0 := Hd.mk (HE.out.lt)
      have HBW := HB
      replace HB := Hd.mk (bel_then HB.out hb)
      replace HE : Hd (Env X1 [⟨w.heap.size, 24, [.int .i64 Wd, .int .i64 Ht, .slice A xs.length k]⟩]) := ⟨HE.out.to hb⟩
      have HLS := HL0
      have e9 : vs 9 = .string { data := #[] } := hv 4 (by decide) rfl
      have e10 : vs 10 = .int .i64 3 := hv 5 (by decide) rfl
      simp only [putAll, List.foldl_cons, List.foldl_nil, Act.put, List.setIfInBounds_toArray, List.set_cons_succ, List.set_cons_zero, List.drop_succ_cons, List.drop_zero, e9, e10]
      generalize vs 6 = s6
      generalize vs 7 = s7
      generalize vs 8 = s8
      generalize vs 5 = s5
      clear hv hal hne hb HL0 HBW HLS e9 e10
      go_upto_region 2 with fail
      refine wp_region_vd 3 [12, 13, 14] [2] [] 84 [.int .i64 0, .int .i64 0] [isV (.agg #[.int .i64 Wd, .int .i64 Ht, .slice A xs.length k]), isV (.bool true), isV (.bool false)] (by rfl) alloc_Z ?_ ?_
      · intro qi qh qA aa wx hb hs hd
        match qi, qh, qA with
        | 0, _, _ => exact .inl ⟨rfl, op_ldU rfl rfl (hs 1 rfl) ((HE.out.to hb).get 0 rfl)⟩
        | 1, _, _ => exact .inl ⟨rfl, wp_b (bool_eq HV.out) (op_call1 rfl rfl Try.call17 (rValid_rd Wd Ht xs _ _ (rd_ex (xs := xs) (hd 0 rfl) (HRI.out.to (bel_then HB.out hb)))))⟩
        | 2, _, _ => exact .inl ⟨rfl, ⟨_, op_not rfl (hd 1 rfl), rfl⟩⟩
        | qi + 3, h, _ => omega
      · intro vs X2 hb hv hal hne
        have HL0 := Hd.mk (HE.out.lt)
        have HBW := HB
        replace HB := Hd.mk (bel_then HB.out hb)
        replace HE : Hd (Env X2 [⟨w.heap.size, 24, [.int .i64 Wd, .int .i64 Ht, .slice A xs.length k]⟩]) := ⟨HE.out.to hb⟩
        have HLS := HL0
        have e14 : vs 14 = .bool false := hv 2 (by decide) rfl
        simp only [putAll, List.foldl_cons, List.foldl_nil, Act.put, List.setIfInBounds_toArray, List.set_cons_succ, List.set_cons_zero, List.drop_succ_cons, List.drop_zero, e14]
        generalize vs 12 = s12
        generalize vs 13 = s13
        clear hv hal hne hb HL0 HBW HLS e14
        go_upto_region 4 with fail
        refine wp_region_vd 8 [25, 26, 27, 28, 29, 30, 31, 32] [0, 2, 3, 7] [] 84 [.int .i64 0, .int .i64 0] [isV (.pointer (some ⟨w.heap.size, 0, none⟩)), isV (.int .i64 Wd), isV (.bool true), isV (.bool true), isV undef, isV undef, isV undef, isV (.bool true)] (by rfl) alloc_Z ?_ ?_
        · intro qi qh qA aa wx hb hs hd
          match qi, qh, qA with
          | 0, _, _ => exact .inl ⟨rfl, ⟨_, op_faU0 rfl (hs 1 rfl), rfl⟩⟩
          | 1, _, _ => exact .inl ⟨rfl, op_ldI rfl rfl (hd 0 rfl) ((HE.out.to hb).cell 0 0 rfl rfl)⟩
          | 2, _, _ => exact .inl ⟨rfl, pure_b (bool_eq (decide_eq_true h6)) (⟨_, op_gtrI rfl (hd 1 rfl) rfl, rfl⟩)⟩
          | 3, _, _ => exact .inl ⟨rfl, op_mv rfl (hd 2 rfl)⟩
          | 4, _, _ => exact .inr ⟨⟨rfl, .inl (hd 3 rfl)⟩, rfl⟩
          | 5, _, _ => exact .inr ⟨⟨rfl, .inl (hd 3 rfl)⟩, rfl⟩
          | 6, _, _ => exact .inr ⟨⟨rfl, .inl (hd 3 rfl)⟩, rfl⟩
          | 7, _, _ => exact .inl ⟨rfl, ⟨_, op_pickT rfl (hd 3 rfl) rfl, rfl⟩⟩
          | qi + 8, h, _ => omega
        · intro vs X3 hb hv hal hne
          have HL0 := Hd.mk (HE.out.lt)
          have HBW := HB
          replace HB := Hd.mk (bel_then HB.out hb)
          replace HE : Hd (Env X3 [⟨w.heap.size, 24, [.int .i64 Wd, .int .i64 Ht, .slice A xs.length k]⟩]) := ⟨HE.out.to hb⟩
          have HLS := HL0
          have e32 : vs 32 = .bool true := hv 7 (by decide) rfl
          simp only [putAll, List.foldl_cons, List.foldl_nil, Act.put, List.setIfInBounds_toArray, List.set_cons_succ, List.set_cons_zero, List.drop_succ_cons, List.drop_zero, e32]
          generalize vs 25 = s25
          generalize vs 26 = s26
          generalize vs 27 = s27
          generalize vs 28 = s28
          generalize vs 29 = s29
          generalize vs 30 = s30
          generalize vs 31 = s31
          clear hv hal hne hb HL0 HBW HLS e32
          go_upto_region 5 with fail
          refine wp_region_vd 9 [33, 34, 35, 36, 37, 38, 39, 40, 41] [0, 1, 2, 3, 4, 5, 6, 8] [] 84 [.int .i64 0, .int .i64 0] [isV (.string { data := #[] }), isV (.bool true), isV (.bool true), isV (.int .i64 3), isV (.bool true), isV (.bool true), isV (.bool true), isV (.bool true), isV (.bool true)] (by rfl) alloc_Z ?_ ?_
          · intro qi qh qA aa wx hb hs hd
            match qi, qh, qA with
            | 0, _, _ => exact .inl ⟨rfl, op_mv rfl (hs 3 rfl)⟩
            | 1, _, _ => exact .inl ⟨rfl, ⟨_, op_eqlSS ⟨_, rfl⟩ rfl (hd 0 rfl) rfl, rfl⟩⟩
            | 2, _, _ => exact .inl ⟨rfl, op_mv rfl (hd 1 rfl)⟩
            | 3, _, _ => exact .inl ⟨⟨rfl, .inl (hd 2 rfl)⟩, op_mv rfl (hs 4 rfl)⟩
            | 4, _, _ => exact .inl ⟨⟨rfl, .inl (hd 2 rfl)⟩, pure_b (bool_eq (by decide)) (⟨_, op_eqlE rfl (hd 3 rfl) rfl, rfl⟩)⟩
            | 5, _, _ => exact .inl ⟨rfl, ⟨_, op_pickT rfl (hd 2 rfl) (hd 4 rfl), rfl⟩⟩
            | 6, _, _ => exact .inl ⟨rfl, op_mv rfl (hd 5 rfl)⟩
            | 7, _, _ => exact .inl ⟨⟨rfl, .inl (hd 6 rfl)⟩, op_call0 rfl rfl Try.call18 (awake_got _)⟩
            | 8, _, _ => exact .inl ⟨rfl, ⟨_, op_pickT rfl (hd 6 rfl) (hd 7 rfl), rfl⟩⟩
            | qi + 9, h, _ => omega
          · intro vs X4 hb hv hal hne
            have HL0 := Hd.mk (HE.out.lt)
            have HBW := HB
            replace HB := Hd.mk (bel_then HB.out hb)
            replace HE : Hd (Env X4 [⟨w.heap.size, 24, [.int .i64 Wd, .int .i64 Ht, .slice A xs.length k]⟩]) := ⟨HE.out.to hb⟩
            have HLS := HL0
            have e41 : vs 41 = .bool true := hv 8 (by decide) rfl
            simp only [putAll, List.foldl_cons, List.foldl_nil, Act.put, List.setIfInBounds_toArray, List.set_cons_succ, List.set_cons_zero, List.drop_succ_cons, List.drop_zero, e41]
            generalize vs 33 = s33
            generalize vs 34 = s34
            generalize vs 35 = s35
            generalize vs 36 = s36
            generalize vs 37 = s37
            generalize vs 38 = s38
            generalize vs 39 = s39
            generalize vs 40 = s40
            clear hv hal hne hb HL0 HBW HLS e41
            go_wp2_with fail
            go_ret
            exact ⟨_, rfl, HB.out, rfl⟩
  · go_enter Try.func7, Try.ntmps7
    go_upto_region 1 with fail
    obtain ⟨W0, hW0⟩ : ∃ W : World, W = w.alloc (.cells #[.int .i64 Wd, .int .i64 Ht, .slice A xs.length k] 24) := ⟨_, rfl⟩
    rw [← hW0]
    obtain ⟨he, hb⟩ := env_one hW0
    have HE := Hd.mk he
    have HB := Hd.mk hb
    clear he hb hW0
    refine wp_region_vd 6 [6, 7, 8, 5, 9, 10] [3, 4, 5] [] 84 [.int .i64 0, .int .i64 0] [isV (.agg #[.int .i64 Wd, .int .i64 Ht, .slice A xs.length k]), isSt W0.heap.size Wd Ht xs, isP (isV (.string { data := #[] })) (isV (.int .i64 3)), isP (isV (.string { data := #[] })) (isV (.int .i64 3)), isV (.string { data := #[] }), isV (.int .i64 3)] (by rfl) alloc_Z ?_ ?_
    · intro qi qh qA aa wx hb hs hd
      match qi, qh, qA with
      | 0, _, _ => exact .inl ⟨rfl, op_ldU rfl rfl (hs 1 rfl) ((HE.out.to hb).get 0 rfl)⟩
      | 1, _, _ => exact .inl ⟨rfl, op_call1 rfl rfl Try.call15 (by rw [(show aa.eval (.tmp 6) = .agg #[.int .i64 Wd, .int .i64 Ht, .slice A xs.length k] from (hd 0 rfl))]; exact got_st hb.size (HSTY.out _ (HRI.out.to (bel_then HB.out hb))))⟩
      | 2, _, _ => exact .inl ⟨rfl, op_call1 rfl rfl Try.call34 (Kind_rd_big HV.out HBG.out (rd_st (hd 1 rfl)))⟩
      | 3, _, _ => exact .inl ⟨rfl, op_mv rfl (hd 2 rfl)⟩
      | 4, _, _ => exact .inl ⟨rfl, op_fst rfl (hd 3 rfl)⟩
      | 5, _, _ => exact .inl ⟨rfl, op_snd rfl (hd 3 rfl)⟩
      | qi + 6, h, _ => omega
    · intro vs X1 hb hv hal hne
      have HL0 := Hd.mk (HE.out.lt)
      have HBW := HB
      replace HB := Hd.mk (bel_then HB.out hb)
      replace HE : Hd (Env X1 [⟨w.heap.size, 24, [.int .i64 Wd, .int .i64 Ht, .slice A xs.length k]⟩]) := ⟨HE.out.to hb⟩
      have HLS := HL0
      have e9 : vs 9 = .string { data := #[] } := hv 4 (by decide) rfl
      have e10 : vs 10 = .int .i64 3 := hv 5 (by decide) rfl
      simp only [putAll, List.foldl_cons, List.foldl_nil, Act.put, List.setIfInBounds_toArray, List.set_cons_succ, List.set_cons_zero, List.drop_succ_cons, List.drop_zero, e9, e10]
      generalize vs 6 = s6
      generalize vs 7 = s7
      generalize vs 8 = s8
      generalize vs 5 = s5
      clear hv hal hne hb HL0 HBW HLS e9 e10
      go_upto_region 2 with fail
      refine wp_region_vd 3 [12, 13, 14] [2] [] 84 [.int .i64 0, .int .i64 0] [isV (.agg #[.int .i64 Wd, .int .i64 Ht, .slice A xs.length k]), isV (.bool true), isV (.bool false)] (by rfl) alloc_Z ?_ ?_
      · intro qi qh qA aa wx hb hs hd
        match qi, qh, qA with
        | 0, _, _ => exact .inl ⟨rfl, op_ldU rfl rfl (hs 1 rfl) ((HE.out.to hb).get 0 rfl)⟩
        | 1, _, _ => exact .inl ⟨rfl, wp_b (bool_eq HV.out) (op_call1 rfl rfl Try.call17 (rValid_rd Wd Ht xs _ _ (rd_ex (xs := xs) (hd 0 rfl) (HRI.out.to (bel_then HB.out hb)))))⟩
        | 2, _, _ => exact .inl ⟨rfl, ⟨_, op_not rfl (hd 1 rfl), rfl⟩⟩
        | qi + 3, h, _ => omega
      · intro vs X2 hb hv hal hne
        have HL0 := Hd.mk (HE.out.lt)
        have HBW := HB
        replace HB := Hd.mk (bel_then HB.out hb)
        replace HE : Hd (Env X2 [⟨w.heap.size, 24, [.int .i64 Wd, .int .i64 Ht, .slice A xs.length k]⟩]) := ⟨HE.out.to hb⟩
        have HLS := HL0
        have e14 : vs 14 = .bool false := hv 2 (by decide) rfl
        simp only [putAll, List.foldl_cons, List.foldl_nil, Act.put, List.setIfInBounds_toArray, List.set_cons_succ, List.set_cons_zero, List.drop_succ_cons, List.drop_zero, e14]
        generalize vs 12 = s12
        generalize vs 13 = s13
        clear hv hal hne hb HL0 HBW HLS e14
        go_upto_region 4 with fail
        refine wp_region_vd 8 [25, 26, 27, 28, 29, 30, 31, 32] [0, 2, 3, 4, 6, 7] [] 84 [.int .i64 0, .int .i64 0] [isV (.pointer (some ⟨w.heap.size, 0, none⟩)), isV (.int .i64 Wd), isV (.bool false), isV (.bool false), isV (.pointer (some ⟨w.heap.size, 1, none⟩)), isV (.int .i64 Ht), isV (.bool true), isV (.bool true)] (by rfl) alloc_Z ?_ ?_
        · intro qi qh qA aa wx hb hs hd
          match qi, qh, qA with
          | 0, _, _ => exact .inl ⟨rfl, ⟨_, op_faU0 rfl (hs 1 rfl), rfl⟩⟩
          | 1, _, _ => exact .inl ⟨rfl, op_ldI rfl rfl (hd 0 rfl) ((HE.out.to hb).cell 0 0 rfl rfl)⟩
          | 2, _, _ => exact .inl ⟨rfl, pure_b (bool_eq (decide_eq_false h6)) (⟨_, op_gtrI rfl (hd 1 rfl) rfl, rfl⟩)⟩
          | 3, _, _ => exact .inl ⟨rfl, op_mv rfl (hd 2 rfl)⟩
          | 4, _, _ => exact .inl ⟨⟨rfl, .inl (hd 3 rfl)⟩, ⟨_, op_faU1 rfl (hs 1 rfl), rfl⟩⟩
          | 5, _, _ => exact .inl ⟨⟨rfl, .inl (hd 3 rfl)⟩, op_ldI rfl rfl (hd 4 rfl) ((HE.out.to hb).cell 0 1 rfl rfl)⟩
          | 6, _, _ => exact .inl ⟨⟨rfl, .inl (hd 3 rfl)⟩, pure_b (bool_eq (decide_eq_true (by have h := HBG.out; omega))) (⟨_, op_gtrI rfl (hd 5 rfl) rfl, rfl⟩)⟩
          | 7, _, _ => exact .inl ⟨rfl, ⟨_, op_pickF rfl (hd 3 rfl) (hd 6 rfl), rfl⟩⟩
          | qi + 8, h, _ => omega
        · intro vs X3 hb hv hal hne
          have HL0 := Hd.mk (HE.out.lt)
          have HBW := HB
          replace HB := Hd.mk (bel_then HB.out hb)
          replace HE : Hd (Env X3 [⟨w.heap.size, 24, [.int .i64 Wd, .int .i64 Ht, .slice A xs.length k]⟩]) := ⟨HE.out.to hb⟩
          have HLS := HL0
          have e32 : vs 32 = .bool true := hv 7 (by decide) rfl
          simp only [putAll, List.foldl_cons, List.foldl_nil, Act.put, List.setIfInBounds_toArray, List.set_cons_succ, List.set_cons_zero, List.drop_succ_cons, List.drop_zero, e32]
          generalize vs 25 = s25
          generalize vs 26 = s26
          generalize vs 27 = s27
          generalize vs 28 = s28
          generalize vs 29 = s29
          generalize vs 30 = s30
          generalize vs 31 = s31
          clear hv hal hne hb HL0 HBW HLS e32
          go_upto_region 5 with fail
          refine wp_region_vd 9 [33, 34, 35, 36, 37, 38, 39, 40, 41] [0, 1, 2, 3, 4, 5, 6, 8] [] 84 [.int .i64 0, .int .i64 0] [isV (.string { data := #[] }), isV (.bool true), isV (.bool true), isV (.int .i64 3), isV (.bool true), isV (.bool true), isV (.bool true), isV (.bool true), isV (.bool true)] (by rfl) alloc_Z ?_ ?_
          · intro qi qh qA aa wx hb hs hd
            match qi, qh, qA with
            | 0, _, _ => exact .inl ⟨rfl, op_mv rfl (hs 3 rfl)⟩
            | 1, _, _ => exact .inl ⟨rfl, ⟨_, op_eqlSS ⟨_, rfl⟩ rfl (hd 0 rfl) rfl, rfl⟩⟩
            | 2, _, _ => exact .inl ⟨rfl, op_mv rfl (hd 1 rfl)⟩
            | 3, _, _ => exact .inl ⟨⟨rfl, .inl (hd 2 rfl)⟩, op_mv rfl (hs 4 rfl)⟩
            | 4, _, _ => exact .inl ⟨⟨rfl, .inl (hd 2 rfl)⟩, pure_b (bool_eq (by decide)) (⟨_, op_eqlE rfl (hd 3 rfl) rfl, rfl⟩)⟩
            | 5, _, _ => exact .inl ⟨rfl, ⟨_, op_pickT rfl (hd 2 rfl) (hd 4 rfl), rfl⟩⟩
            | 6, _, _ => exact .inl ⟨rfl, op_mv rfl (hd 5 rfl)⟩
            | 7, _, _ => exact .inl ⟨⟨rfl, .inl (hd 6 rfl)⟩, op_call0 rfl rfl Try.call18 (awake_got _)⟩
            | 8, _, _ => exact .inl ⟨rfl, ⟨_, op_pickT rfl (hd 6 rfl) (hd 7 rfl), rfl⟩⟩
            | qi + 9, h, _ => omega
          · intro vs X4 hb hv hal hne
            have HL0 := Hd.mk (HE.out.lt)
            have HBW := HB
            replace HB := Hd.mk (bel_then HB.out hb)
            replace HE : Hd (Env X4 [⟨w.heap.size, 24, [.int .i64 Wd, .int .i64 Ht, .slice A xs.length k]⟩]) := ⟨HE.out.to hb⟩
            have HLS := HL0
            have e41 : vs 41 = .bool true := hv 8 (by decide) rfl
            simp only [putAll, List.foldl_cons, List.foldl_nil, Act.put, List.setIfInBounds_toArray, List.set_cons_succ, List.set_cons_zero, List.drop_succ_cons, List.drop_zero, e41]
            generalize vs 33 = s33
            generalize vs 34 = s34
            generalize vs 35 = s35
            generalize vs 36 = s36
            generalize vs 37 = s37
            generalize vs 38 = s38
            generalize vs 39 = s39
            generalize vs 40 = s40
            clear hv hal hne hb HL0 HBW HLS e41
            go_wp2_with fail
            go_ret
            exact ⟨_, rfl, HB.out, rfl⟩
set_option maxRecDepth 100000 in
set_option maxHeartbeats 1000000 in
theorem Kinds_arg (Wd Ht : Int) (A : Option Addr) (k : Nat) (xs : List Int) (w : World) (hri : RI w A xs) (hlk : xs.length ≤ k) (hA : A = none → k = 0) (hn : validB Wd Ht xs = false) :
    Calls Try.prog 7 #[.agg #[.int .i64 Wd, .int .i64 Ht, .slice A xs.length k]] w (Got w (isV (.bool true)).p) := by
  have HRI := Hd.mk hri
  clear hri
  have HSTY := Hd.mk (fun W (h : RI W A xs) => stamps_got Wd Ht A k xs W h hlk hA)
  have HN : Hd (validB Wd Ht (xs.take 70) = false) := ⟨by rw [valid_take]; exact hn⟩
  have HV := Hd.mk hn
  clear hn
  go_enter Try.func7, Try.ntmps7
  go_upto_region 1 with fail
  obtain ⟨W0, hW0⟩ : ∃ W : World, W = w.alloc (.cells #[.int .i64 Wd, .int .i64 Ht, .slice A xs.length k] 24) := ⟨_, rfl⟩
  rw [← hW0]
  obtain ⟨he, hb⟩ := env_one hW0
  have HE := Hd.mk he
  have HB := Hd.mk hb
  clear he hb hW0
  refine wp_region_vd 6 [6, 7, 8, 5, 9, 10] [3, 4, 5] [] 84 [.int .i64 0, .int .i64 0] [isV (.agg #[.int .i64 Wd, .int .i64 Ht, .slice A xs.length k]), isSt W0.heap.size Wd Ht (xs.take 70), isP (isV (.string { data := #[] })) (isV (.int .i64 2)), isP (isV (.string { data := #[] })) (isV (.int .i64 2)), isV (.string { data := #[] }), isV (.int .i64 2)] (by rfl) alloc_Z ?_ ?_
  · intro qi qh qA aa wx hb hs hd
    match qi, qh, qA with
    | 0, _, _ => exact .inl ⟨rfl, op_ldU rfl rfl (hs 1 rfl) ((HE.out.to hb).get 0 rfl)⟩
    | 1, _, _ => exact .inl ⟨rfl, op_call1 rfl rfl Try.call15 (by rw [(show aa.eval (.tmp 6) = .agg #[.int .i64 Wd, .int .i64 Ht, .slice A xs.length k] from (hd 0 rfl))]; exact got_st hb.size (HSTY.out _ (HRI.out.to (bel_then HB.out hb))))⟩
    | 2, _, _ => exact .inl ⟨rfl, op_call1 rfl rfl Try.call34 (Kind_rd_arg HN.out (rd_st (hd 1 rfl)))⟩
    | 3, _, _ => exact .inl ⟨rfl, op_mv rfl (hd 2 rfl)⟩
    | 4, _, _ => exact .inl ⟨rfl, op_fst rfl (hd 3 rfl)⟩
    | 5, _, _ => exact .inl ⟨rfl, op_snd rfl (hd 3 rfl)⟩
    | qi + 6, h, _ => omega
  · intro vs X1 hb hv hal hne
    have HL0 := Hd.mk (HE.out.lt)
    have HBW := HB
    replace HB := Hd.mk (bel_then HB.out hb)
    replace HE : Hd (Env X1 [⟨w.heap.size, 24, [.int .i64 Wd, .int .i64 Ht, .slice A xs.length k]⟩]) := ⟨HE.out.to hb⟩
    have HLS := HL0
    have e9 : vs 9 = .string { data := #[] } := hv 4 (by decide) rfl
    have e10 : vs 10 = .int .i64 2 := hv 5 (by decide) rfl
    simp only [putAll, List.foldl_cons, List.foldl_nil, Act.put, List.setIfInBounds_toArray, List.set_cons_succ, List.set_cons_zero, List.drop_succ_cons, List.drop_zero, e9, e10]
    generalize vs 6 = s6
    generalize vs 7 = s7
    generalize vs 8 = s8
    generalize vs 5 = s5
    clear hv hal hne hb HL0 HBW HLS e9 e10
    go_upto_region 2 with fail
    refine wp_region_vd 3 [12, 13, 14] [2] [] 84 [.int .i64 0, .int .i64 0] [isV (.agg #[.int .i64 Wd, .int .i64 Ht, .slice A xs.length k]), isV (.bool false), isV (.bool true)] (by rfl) alloc_Z ?_ ?_
    · intro qi qh qA aa wx hb hs hd
      match qi, qh, qA with
      | 0, _, _ => exact .inl ⟨rfl, op_ldU rfl rfl (hs 1 rfl) ((HE.out.to hb).get 0 rfl)⟩
      | 1, _, _ => exact .inl ⟨rfl, wp_b (bool_eq HV.out) (op_call1 rfl rfl Try.call17 (rValid_rd Wd Ht xs _ _ (rd_ex (xs := xs) (hd 0 rfl) (HRI.out.to (bel_then HB.out hb)))))⟩
      | 2, _, _ => exact .inl ⟨rfl, ⟨_, op_not rfl (hd 1 rfl), rfl⟩⟩
      | qi + 3, h, _ => omega
    · intro vs X2 hb hv hal hne
      have HL0 := Hd.mk (HE.out.lt)
      have HBW := HB
      replace HB := Hd.mk (bel_then HB.out hb)
      replace HE : Hd (Env X2 [⟨w.heap.size, 24, [.int .i64 Wd, .int .i64 Ht, .slice A xs.length k]⟩]) := ⟨HE.out.to hb⟩
      have HLS := HL0
      have e14 : vs 14 = .bool true := hv 2 (by decide) rfl
      simp only [putAll, List.foldl_cons, List.foldl_nil, Act.put, List.setIfInBounds_toArray, List.set_cons_succ, List.set_cons_zero, List.drop_succ_cons, List.drop_zero, e14]
      generalize vs 12 = s12
      generalize vs 13 = s13
      clear hv hal hne hb HL0 HBW HLS e14
      go_upto_region 3 with fail
      refine wp_region_vd 9 [15, 16, 17, 18, 19, 20, 21, 22, 23] [0, 1, 2, 3, 4, 5, 6, 8] [] 84 [.int .i64 0, .int .i64 0] [isV (.string { data := #[] }), isV (.bool true), isV (.bool true), isV (.int .i64 2), isV (.bool true), isV (.bool true), isV (.bool true), isV (.bool true), isV (.bool true)] (by rfl) alloc_Z ?_ ?_
      · intro qi qh qA aa wx hb hs hd
        match qi, qh, qA with
        | 0, _, _ => exact .inl ⟨rfl, op_mv rfl (hs 3 rfl)⟩
        | 1, _, _ => exact .inl ⟨rfl, ⟨_, op_eqlSS ⟨_, rfl⟩ rfl (hd 0 rfl) rfl, rfl⟩⟩
        | 2, _, _ => exact .inl ⟨rfl, op_mv rfl (hd 1 rfl)⟩
        | 3, _, _ => exact .inl ⟨⟨rfl, .inl (hd 2 rfl)⟩, op_mv rfl (hs 4 rfl)⟩
        | 4, _, _ => exact .inl ⟨⟨rfl, .inl (hd 2 rfl)⟩, pure_b (bool_eq (by decide)) (⟨_, op_eqlE rfl (hd 3 rfl) rfl, rfl⟩)⟩
        | 5, _, _ => exact .inl ⟨rfl, ⟨_, op_pickT rfl (hd 2 rfl) (hd 4 rfl), rfl⟩⟩
        | 6, _, _ => exact .inl ⟨rfl, op_mv rfl (hd 5 rfl)⟩
        | 7, _, _ => exact .inl ⟨⟨rfl, .inl (hd 6 rfl)⟩, op_call0 rfl rfl Try.call18 (awake_got _)⟩
        | 8, _, _ => exact .inl ⟨rfl, ⟨_, op_pickT rfl (hd 6 rfl) (hd 7 rfl), rfl⟩⟩
        | qi + 9, h, _ => omega
      · intro vs X3 hb hv hal hne
        have HL0 := Hd.mk (HE.out.lt)
        have HBW := HB
        replace HB := Hd.mk (bel_then HB.out hb)
        replace HE : Hd (Env X3 [⟨w.heap.size, 24, [.int .i64 Wd, .int .i64 Ht, .slice A xs.length k]⟩]) := ⟨HE.out.to hb⟩
        have HLS := HL0
        have e23 : vs 23 = .bool true := hv 8 (by decide) rfl
        simp only [putAll, List.foldl_cons, List.foldl_nil, Act.put, List.setIfInBounds_toArray, List.set_cons_succ, List.set_cons_zero, List.drop_succ_cons, List.drop_zero, e23]
        generalize vs 15 = s15
        generalize vs 16 = s16
        generalize vs 17 = s17
        generalize vs 18 = s18
        generalize vs 19 = s19
        generalize vs 20 = s20
        generalize vs 21 = s21
        generalize vs 22 = s22
        clear hv hal hne hb HL0 HBW HLS e23
        go_wp2_with fail
        go_ret
        exact ⟨_, rfl, HB.out, rfl⟩
end Go.Proofs.Ytddbmckbankmeaa
set_option linter.unusedVariables false
namespace Go.Proofs.Ytddbmckbankmeaa
open Go.RowKit
theorem StampKinds_walk (s : RSt) (w : World) (hs : s.at_ w) : Calls Try.prog 7 #[s.v] w fun e w' => e = .returned (.bool true) ∧ Below w.heap.size w w' := by
  obtain ⟨W, H, A, k, xs⟩ := s
  obtain ⟨hr, hl, hA⟩ := hs
  refine Calls.mono ?_ (show ∀ e w', Got w (isV (.bool true)).p e w' → _ from fun e w' ⟨v, he, hb, hv⟩ => ⟨by rw [he, show v = .bool true from hv], hb⟩)
  cases h : validB W H xs
  · exact Kinds_arg W H A k xs w hr hl hA h
  · have hs := sizeB_bounds (valid_size h)
    by_cases h6 : 6 < W ∨ 6 < H
    · exact Kinds_big W H A k xs w hr hl hA h h6
    · exact Kinds_ok W H A k xs w hr hl hA h (by omega) (by omega)
end Go.Proofs.Ytddbmckbankmeaa
