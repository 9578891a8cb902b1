/- Part 14 of the texts behind this claim. -/
import Derived.Test.YtddbmckbankmeaaKs13
set_option linter.unusedVariables false
set_option linter.unusedSimpArgs false
namespace Go.Proofs.Ytddbmckbankmeaa
open Go.RowKit
section
variable {o : Oper} {a : Act} {x y : Operand} {i : Nat}
theorem op_bu3 (ho : o.op = .build 109 #[(0, .const (.string { data := #[112, 103, 103] })), (1, .const (.string { data := #[112, 109, 103] })), (2, .const (.string { data := #[112, 109, 109] }))]) (w : World) :
    (execOp a.eval o).run Try.prog w = .ok (.value (.agg #[.string { data := #[112, 103, 103] }, .string { data := #[112, 109, 103] }, .string { data := #[112, 109, 109] }])) w := by
  have h0 : ∀ s, a.eval (.const (.string s)) = .string s := fun s => rfl
  generalize a.eval = ev at h0 ⊢
  unfold execOp
  simp only [ho]
  simp [go_sem, h0]
theorem run_idx3a (w : World) : (Instr.index 109 (.agg #[.string { data := #[112, 103, 103] }, .string { data := #[112, 109, 103] }, .string { data := #[112, 109, 109] }]) (.int .i64 0)).run Try.prog w = .ok (.string { data := #[112, 103, 103] }) w := by kernel_rfl
theorem run_idx3b (w : World) : (Instr.index 109 (.agg #[.string { data := #[112, 103, 103] }, .string { data := #[112, 109, 103] }, .string { data := #[112, 109, 109] }]) (.int .i64 1)).run Try.prog w = .ok (.string { data := #[112, 109, 103] }) w := by kernel_rfl
theorem run_idx3c (w : World) : (Instr.index 109 (.agg #[.string { data := #[112, 103, 103] }, .string { data := #[112, 109, 103] }, .string { data := #[112, 109, 109] }]) (.int .i64 2)).run Try.prog w = .ok (.string { data := #[112, 109, 109] }) w := by kernel_rfl
theorem run_idx3 (i : Nat) (hi : i < 3) (w : World) : (Instr.index 109 (.agg #[.string { data := #[112, 103, 103] }, .string { data := #[112, 109, 103] }, .string { data := #[112, 109, 109] }]) (.int .i64 (i : Int))).run Try.prog w = .ok (knm (5 + i)) w := by
  have h : i = 0 ∨ i = 1 ∨ i = 2 := by omega
  rcases h with rfl | rfl | rfl
  · exact run_idx3a w
  · exact run_idx3b w
  · exact run_idx3c w
theorem op_idx3 (hi : i < 3) (ho : o.op = .index 109 x y) (hx : a.eval x = .agg #[.string { data := #[112, 103, 103] }, .string { data := #[112, 109, 103] }, .string { data := #[112, 109, 109] }]) (hy : a.eval y = .int .i64 (i : Int)) (w : World) :
    (execOp a.eval o).run Try.prog w = .ok (.value (knm (5 + i))) w := by
  have h := run_idx3 i hi w
  generalize a.eval = ev at hx hy ⊢
  unfold execOp
  simp only [ho, hx, hy]
  simp [go_sem, h]
end
theorem kindF_P (f : Int → Int → Int) : kindF f = kindB (bP (Ex f false 1)) (bP (Ex f false 2)) (cntN (Ex f true) 4) (cntN (Mir f) 4) (decide (0 < cntN (fun k => Mir f k ∧ Cen f k) 4)) := by
  have e : decide (0 < cntN (fun k => Mir f k ∧ Cen f k) 4) = bP (CenA f) := bP_of (by rw [decide_eq_true_iff, cntN_pos]; exact Iff.rfl)
  rw [e, cntN_four, cntN_four]
  rfl
set_option maxRecDepth 100000 in
set_option maxHeartbeats 1000000 in
theorem Kind_ok (Wd Ht : Int) (ad : Addr) (k : Nat) (xs : List Int) (hW : 1 ≤ Wd ∧ Wd ≤ 6) (hH : 1 ≤ Ht ∧ Ht ≤ 6) (w : World) (hri : RI w (some ad) xs) (hv : validB Wd Ht xs = true) :
    Calls Try.prog 34 #[.agg #[.int .i64 Wd, .int .i64 Ht, .slice (some ad) xs.length k]] w (Got w (isP (isV (knm (kindF (colF Wd Ht xs)))) (isV (.int .i64 0))).p) := by
  have HRI := Hd.mk hri
  have HV := Hd.mk hv
  have HL := Hd.mk (valid_len hv)
  clear hri hv
  have HW := Hd.mk hW
  have HH := Hd.mk hH
  have hpn := perN_eq hW hH
  have HPER := Hd.mk (per_of (xs := xs) hpn.2.1 hpn.2.2)
  obtain ⟨n, hn⟩ : ∃ n, n = perN Wd Ht := ⟨_, rfl⟩
  rw [← hn] at hpn HPER
  have HN : Hd (perN Wd Ht = n) := ⟨hn.symm⟩
  obtain ⟨hn1, hn2, hn3⟩ := hpn
  clear hn hn2 hn3
  obtain ⟨q, hq⟩ : ∃ q, bP (Ex (colF Wd Ht xs) false 1) = q := ⟨_, rfl⟩
  obtain ⟨h, hh⟩ : ∃ h, bP (Ex (colF Wd Ht xs) false 2) = h := ⟨_, rfl⟩
  have HQ := Hd.mk hq
  have HH2 := Hd.mk hh
  clear hq hh
  go_enter Try.func34, Try.ntmps34
  go_upto_region 1 with fail
  obtain ⟨W0, hW0⟩ : ∃ W : World, W = w.alloc (.cells #[.int .i64 Wd, .int .i64 Ht, .slice (some ad) xs.length k] 27) := ⟨_, rfl⟩
  rw [← hW0]
  obtain ⟨he, hb⟩ := env_one hW0
  have HE := Hd.mk he
  have HB := Hd.mk hb
  clear he hb hW0
  refine wp_region_vd 3 [13, 14, 15] [2] [] 84 [.int .i64 0, .int .i64 0] [isV (.agg #[.int .i64 Wd, .int .i64 Ht, .slice (some ad) xs.length k]), isV (.bool true), isV (.bool false)] (by rfl) alloc_Z ?_ ?_
  · intro qi qh qA aa wx hb hs hd
    match qi, qh, qA with
    | 0, _, _ => exact .inl ⟨rfl, op_ldT rfl rfl (hs 1 rfl) ((HE.out.to hb).get 0 rfl)⟩
    | 1, _, _ => exact .inl ⟨rfl, wp_b (bool_eq HV.out) (op_call1 rfl rfl Try.call16 (by rw [(show aa.eval (.tmp 13) = .agg #[.int .i64 Wd, .int .i64 Ht, .slice (some ad) xs.length k] from (hd 0 rfl))]; exact Valid_got Wd Ht (some ad) k xs _ (HRI.out.to (bel_then HB.out hb))))⟩
    | 2, _, _ => exact .inl ⟨rfl, ⟨_, op_not rfl (hd 1 rfl), rfl⟩⟩
    | qi + 3, h, _ => omega
  · intro vs X1 hb hv hal hne
    have HL0 := Hd.mk (HE.out.lt)
    have HBW := HB
    replace HB := Hd.mk (bel_then HB.out hb)
    replace HE : Hd (Env X1 [⟨w.heap.size, 27, [.int .i64 Wd, .int .i64 Ht, .slice (some ad) xs.length k]⟩]) := ⟨HE.out.to hb⟩
    have HLS := HL0
    have e15 : vs 15 = .bool false := hv 2 (by decide) rfl
    simp only [putAll, List.foldl_cons, List.foldl_nil, Act.put, List.setIfInBounds_toArray, List.set_cons_succ, List.set_cons_zero, List.drop_succ_cons, List.drop_zero, e15]
    generalize vs 13 = s13
    generalize vs 14 = s14
    clear hv hal hne hb HL0 HBW HLS e15
    go_upto_region 3 with fail
    refine wp_region_vd 6 [17, 18, 19, 20, 21, 22] [0, 2, 5] [] 84 [.int .i64 0, .int .i64 0] [isV (.pointer (some ⟨w.heap.size, 0, none⟩)), isV (.int .i64 Wd), isV (.pointer (some ⟨w.heap.size, 1, none⟩)), isV (.int .i64 Ht), isV (.int .i64 (if Wd < Ht then Ht else Wd)), isV (.bool false)] (by rfl) alloc_Z ?_ ?_
    · intro qi qh qA aa wx hb hs hd
      match qi, qh, qA with
      | 0, _, _ => exact .inl ⟨rfl, ⟨_, op_faT0 rfl (hs 1 rfl), rfl⟩⟩
      | 1, _, _ => exact .inl ⟨rfl, op_ldI rfl rfl (hd 0 rfl) ((HE.out.to hb).cell 0 0 rfl rfl)⟩
      | 2, _, _ => exact .inl ⟨rfl, ⟨_, op_faT1 rfl (hs 1 rfl), rfl⟩⟩
      | 3, _, _ => exact .inl ⟨rfl, op_ldI rfl rfl (hd 2 rfl) ((HE.out.to hb).cell 0 1 rfl rfl)⟩
      | 4, _, _ => exact .inl ⟨rfl, op_max rfl rfl (hd 1 rfl) (hd 3 rfl)⟩
      | 5, _, _ => exact .inl ⟨rfl, pure_b (bool_eq (decide_eq_false (by split <;> omega))) (⟨_, op_gtrI rfl (hd 4 rfl) rfl, rfl⟩)⟩
      | qi + 6, h, _ => omega
    · intro vs X2 hb hv hal hne
      have HL0 := Hd.mk (HE.out.lt)
      have HBW := HB
      replace HB := Hd.mk (bel_then HB.out hb)
      replace HE : Hd (Env X2 [⟨w.heap.size, 27, [.int .i64 Wd, .int .i64 Ht, .slice (some ad) xs.length k]⟩]) := ⟨HE.out.to hb⟩
      have HLS := HL0
      have e22 : vs 22 = .bool false := hv 5 (by decide) rfl
      simp only [putAll, List.foldl_cons, List.foldl_nil, Act.put, List.setIfInBounds_toArray, List.set_cons_succ, List.set_cons_zero, List.drop_succ_cons, List.drop_zero, e22]
      generalize vs 17 = s17
      generalize vs 18 = s18
      generalize vs 19 = s19
      generalize vs 20 = s20
      generalize vs 21 = s21
      clear hv hal hne hb HL0 HBW HLS e22
      go_upto_region 5 with fail
      refine wp_region_vd 3 [23, 24, 4] [] [2] 104 [.int .i64 0, .int .i64 0, .slice none 0 0, .int .i64 0, .nilFunc] [isV (.agg #[.int .i64 Wd, .int .i64 Ht, .slice (some ad) xs.length k]), isPl X2.heap.size Wd Ht (some ad) xs.length k n, SP.any] (by rfl) alloc_P ?_ ?_
      · intro qi qh qA aa wx hb hs hd
        match qi, qh, qA with
        | 0, _, _ => exact .inl ⟨rfl, op_ldT rfl rfl (hs 1 rfl) ((HE.out.to hb).get 0 rfl)⟩
        | 1, _, _ => exact .inl ⟨rfl, op_call1 rfl rfl Try.call66 (by rw [(show aa.eval (.tmp 23) = .agg #[.int .i64 Wd, .int .i64 Ht, .slice (some ad) xs.length k] from (hd 0 rfl))]; exact by have q := got_pl hb.size (plane_got Wd Ht (some ad) k xs HW.out HH.out _); rw [HN.out] at q; exact q)⟩
        | 2, _, h => cases h
        | qi + 3, h, _ => omega
      · intro vs X3 hb hv hal hne
        have HL0 := Hd.mk (HE.out.lt)
        have HBW := HB
        replace HB := Hd.mk (bel_then HB.out hb)
        replace HE : Hd (Env X3 [⟨w.heap.size, 27, [.int .i64 Wd, .int .i64 Ht, .slice (some ad) xs.length k]⟩]) := ⟨HE.out.to hb⟩
        have HLS := HL0
        obtain ⟨g24, e24, l24, b24⟩ : ∃ b, vs 24 = plv Wd Ht (some ad) xs.length k n b ∧ X2.heap.size ≤ b ∧ Blk X3 b 27 [.int .i64 Wd, .int .i64 Ht, .slice (some ad) xs.length k] := hv 1 (by decide) rfl
        unfold plv at e24
        replace HE : Hd (Env X3 [⟨w.heap.size, 27, [.int .i64 Wd, .int .i64 Ht, .slice (some ad) xs.length k]⟩, ⟨g24, 27, [.int .i64 Wd, .int .i64 Ht, .slice (some ad) xs.length k]⟩]) := ⟨Env.addne (e := ⟨g24, 27, [.int .i64 Wd, .int .i64 Ht, .slice (some ad) xs.length k]⟩) HE.out b24 (fun e' he => Nat.ne_of_lt (Nat.lt_of_lt_of_le (HL0.out e' he) l24))⟩
        have G24 : Hd (w.heap.size ≤ g24) := ⟨Nat.le_trans HBW.out.size l24⟩
        obtain ⟨g4, e4, l4, b4⟩ : ∃ g, vs 4 = .pointer (some ⟨g, 0, none⟩) ∧ _ := hal 2 rfl
        replace HE : Hd (Env X3 [⟨w.heap.size, 27, [.int .i64 Wd, .int .i64 Ht, .slice (some ad) xs.length k]⟩, ⟨g24, 27, [.int .i64 Wd, .int .i64 Ht, .slice (some ad) xs.length k]⟩, ⟨g4, 104, [.int .i64 0, .int .i64 0, .slice none 0 0, .int .i64 0, .nilFunc]⟩]) := ⟨Env.addne (e := ⟨g4, 104, [.int .i64 0, .int .i64 0, .slice none 0 0, .int .i64 0, .nilFunc]⟩) HE.out b4 (fun e' he => (List.mem_append.1 (show e' ∈ _ ++ [_] from he)).elim (fun he => Nat.ne_of_lt (Nat.lt_of_lt_of_le (HL0.out e' he) l4)) (fun he => by rw [List.mem_singleton.1 he]; exact blk_ne b24 b4 (by decide)))⟩
        have G4 : Hd (w.heap.size ≤ g4) := ⟨Nat.le_trans HBW.out.size l4⟩
        simp only [putAll, List.foldl_cons, List.foldl_nil, Act.put, List.setIfInBounds_toArray, List.set_cons_succ, List.set_cons_zero, List.drop_succ_cons, List.drop_zero, e24, e4]
        generalize vs 23 = s23
        clear hv hal hne hb HL0 HBW HLS e24 e4 l24 b24 l4 b4
        refine wpList_st rfl rfl rfl rfl rfl (sto_P (HE.out.get 2 rfl)) ?_
        have HE' : Env (putL X3 g4 0 [.int .i64 Wd, .int .i64 Ht, .slice (some ad) xs.length k, .int .i64 n, .func (.func 82) #[] #[.pointer (some ⟨g24, 0, none⟩)]]) [⟨w.heap.size, 27, [.int .i64 Wd, .int .i64 Ht, .slice (some ad) xs.length k]⟩, ⟨g24, 27, [.int .i64 Wd, .int .i64 Ht, .slice (some ad) xs.length k]⟩, ⟨g4, 104, [.int .i64 Wd, .int .i64 Ht, .slice (some ad) xs.length k, .int .i64 n, .func (.func 82) #[] #[.pointer (some ⟨g24, 0, none⟩)]]⟩] := HE.out.putF 2 rfl rfl
        have HB' := putL_below (show w.heap.size ≤ g4 from G4.out) [.int .i64 Wd, .int .i64 Ht, .slice (some ad) xs.length k, .int .i64 n, .func (.func 82) #[] #[.pointer (some ⟨g24, 0, none⟩)]] _ 0 HB.out
        generalize putL X3 g4 0 [.int .i64 Wd, .int .i64 Ht, .slice (some ad) xs.length k, .int .i64 n, .func (.func 82) #[] #[.pointer (some ⟨g24, 0, none⟩)]] = X4 at *
        replace HE := Hd.mk HE'
        replace HB := Hd.mk HB'
        clear HE' HB'
        go_upto_region 6 with fail
        refine wp_region_vs 10 [25, 26, 27, 28, 29, 30, 31, 32, 5, 6] [1, 3, 5, 7, 8, 9] [] 84 [.int .i64 0, .int .i64 0] [isV (.agg #[.int .i64 Wd, .int .i64 Ht, .slice (some ad) xs.length k, .int .i64 n, .func (.func 82) #[] #[.pointer (some ⟨g24, 0, none⟩)]]), isV (.agg #[.int .i64 0, .int .i64 0, .int .i64 1, .bool false]), isV (.agg #[.bool (bP (Ex (colF Wd Ht xs) false 1)), .bool (bP (MirP n (colF Wd Ht xs) false 1)), .bool (bP (MirP n (colF Wd Ht xs) false 1 ∧ CenP n (colF Wd Ht xs) false 1))]), isV (.bool q), isV (.agg #[.int .i64 Wd, .int .i64 Ht, .slice (some ad) xs.length k, .int .i64 n, .func (.func 82) #[] #[.pointer (some ⟨g24, 0, none⟩)]]), isV (.agg #[.int .i64 0, .int .i64 0, .int .i64 2, .bool false]), isV (.agg #[.bool (bP (Ex (colF Wd Ht xs) false 2)), .bool (bP (MirP n (colF Wd Ht xs) false 2)), .bool (bP (MirP n (colF Wd Ht xs) false 2 ∧ CenP n (colF Wd Ht xs) false 2))]), isV (.bool h), isV (.bool q), isV (.bool h)] (by kernel_rfl) (by kernel_rfl) (by kernel_rfl) (by rfl) alloc_Z (fun d v c a w h => by cases d <;> exact h) ?_ ?_
        · intro qi qh qA aa wx hb hs hd
          match qi, qh, qA with
          | 0, _, _ => exact op_ldP rfl rfl (hs 4 rfl) ((HE.out.to hb).get 2 rfl)
          | 1, _, _ => exact ⟨_, op_buM2 rfl rfl, rfl⟩
          | 2, _, _ => exact op_call2 rfl rfl Try.call67 (by rw [(show aa.eval (.tmp 25) = .agg #[.int .i64 Wd, .int .i64 Ht, .slice (some ad) xs.length k, .int .i64 n, .func (.func 82) #[] #[.pointer (some ⟨g24, 0, none⟩)]] from (hd 0 rfl)), (show aa.eval (.tmp 26) = .agg #[.int .i64 0, .int .i64 0, .int .i64 1, .bool false] from (hd 1 rfl))]; exact class_got Wd Ht ad k xs g24 n false 1 HW.out HH.out _ (HRI.out.to (bel_then HB.out hb)) HL.out ((HE.out.to hb).get 1 rfl) hn1 HPER.out (by omega))
          | 3, _, _ => exact pure_b (bool_eq HQ.out) (⟨_, op_fldC0 rfl (hd 2 rfl), rfl⟩)
          | 4, _, _ => exact op_ldP rfl rfl (hs 4 rfl) ((HE.out.to hb).get 2 rfl)
          | 5, _, _ => exact ⟨_, op_buM2 rfl rfl, rfl⟩
          | 6, _, _ => exact op_call2 rfl rfl Try.call67 (by rw [(show aa.eval (.tmp 29) = .agg #[.int .i64 Wd, .int .i64 Ht, .slice (some ad) xs.length k, .int .i64 n, .func (.func 82) #[] #[.pointer (some ⟨g24, 0, none⟩)]] from (hd 4 rfl)), (show aa.eval (.tmp 30) = .agg #[.int .i64 0, .int .i64 0, .int .i64 2, .bool false] from (hd 5 rfl))]; exact class_got Wd Ht ad k xs g24 n false 2 HW.out HH.out _ (HRI.out.to (bel_then HB.out hb)) HL.out ((HE.out.to hb).get 1 rfl) hn1 HPER.out (by omega))
          | 7, _, _ => exact pure_b (bool_eq HH2.out) (⟨_, op_fldC0 rfl (hd 6 rfl), rfl⟩)
          | 8, _, _ => exact op_asg rfl (hd 3 rfl)
          | 9, _, _ => exact op_asg rfl (hd 7 rfl)
          | qi + 10, h, _ => omega
        · intro vs X5 hb hv hal hne
          have HL0 := Hd.mk (HE.out.lt)
          have HBW := HB
          replace HB := Hd.mk (bel_then HB.out hb)
          replace HE : Hd (Env X5 [⟨w.heap.size, 27, [.int .i64 Wd, .int .i64 Ht, .slice (some ad) xs.length k]⟩, ⟨g24, 27, [.int .i64 Wd, .int .i64 Ht, .slice (some ad) xs.length k]⟩, ⟨g4, 104, [.int .i64 Wd, .int .i64 Ht, .slice (some ad) xs.length k, .int .i64 n, .func (.func 82) #[] #[.pointer (some ⟨g24, 0, none⟩)]]⟩]) := ⟨HE.out.to hb⟩
          have HLS := HL0
          have e5 : vs 5 = .bool q := hv 8 (by decide) rfl
          have e6 : vs 6 = .bool h := hv 9 (by decide) rfl
          simp only [putAll, List.foldl_cons, List.foldl_nil, Act.put, List.setIfInBounds_toArray, List.set_cons_succ, List.set_cons_zero, List.drop_succ_cons, List.drop_zero, e5, e6]
          generalize vs 25 = s25
          generalize vs 26 = s26
          generalize vs 27 = s27
          generalize vs 28 = s28
          generalize vs 29 = s29
          generalize vs 30 = s30
          generalize vs 31 = s31
          generalize vs 32 = s32
          clear hv hal hne hb HL0 HBW HLS e5 e6
          go_upto_region 7 with fail
          refine wp_region_vd 0 [] [] [] 84 [.int .i64 0, .int .i64 0] [] (by rfl) alloc_Z ?_ ?_
          · intro qi qh qA aa wx hb hs hd
            match qi, qh, qA with
            | qi + 0, h, _ => omega
          · intro vs X6 hb hv hal hne
            have HL0 := Hd.mk (HE.out.lt)
            have HBW := HB
            replace HB := Hd.mk (bel_then HB.out hb)
            replace HE : Hd (Env X6 [⟨w.heap.size, 27, [.int .i64 Wd, .int .i64 Ht, .slice (some ad) xs.length k]⟩, ⟨g24, 27, [.int .i64 Wd, .int .i64 Ht, .slice (some ad) xs.length k]⟩, ⟨g4, 104, [.int .i64 Wd, .int .i64 Ht, .slice (some ad) xs.length k, .int .i64 n, .func (.func 82) #[] #[.pointer (some ⟨g24, 0, none⟩)]]⟩]) := ⟨HE.out.to hb⟩
            have HLS := HL0
            simp only [putAll, List.foldl_cons, List.foldl_nil, Act.put, List.setIfInBounds_toArray, List.set_cons_succ, List.set_cons_zero, List.drop_succ_cons, List.drop_zero]
            clear hv hal hne hb HL0 HBW HLS
            go_upto_region 8 with fail
            refine wp_region_vd 1 [33] [0] [] 84 [.int .i64 0, .int .i64 0] [isV (.int .i64 0)] (by rfl) alloc_Z ?_ ?_
            · intro qi qh qA aa wx hb hs hd
              match qi, qh, qA with
              | 0, _, _ => exact .inl ⟨rfl, op_mv rfl rfl⟩
              | qi + 1, h, _ => omega
            · intro vs X7 hb hv hal hne
              have HL0 := Hd.mk (HE.out.lt)
              have HBW := HB
              replace HB := Hd.mk (bel_then HB.out hb)
              replace HE : Hd (Env X7 [⟨w.heap.size, 27, [.int .i64 Wd, .int .i64 Ht, .slice (some ad) xs.length k]⟩, ⟨g24, 27, [.int .i64 Wd, .int .i64 Ht, .slice (some ad) xs.length k]⟩, ⟨g4, 104, [.int .i64 Wd, .int .i64 Ht, .slice (some ad) xs.length k, .int .i64 n, .func (.func 82) #[] #[.pointer (some ⟨g24, 0, none⟩)]]⟩]) := ⟨HE.out.to hb⟩
              have HLS := HL0
              have e33 : vs 33 = .int .i64 0 := hv 0 (by decide) rfl
              simp only [putAll, List.foldl_cons, List.foldl_nil, Act.put, List.setIfInBounds_toArray, List.set_cons_succ, List.set_cons_zero, List.drop_succ_cons, List.drop_zero, e33]
              clear hv hal hne hb HL0 HBW HLS e33
              go_wp2_with fail
              go_loopw [7, 8, 9, 33] (fun s7 s8 s9 sx wr => ∃ T : Nat, T ≤ 4 ∧ s7 = .int .i64 ((cntN (Ex (colF Wd Ht xs) true) T : Nat) : Int) ∧ s8 = .int .i64 ((cntN (Mir (colF Wd Ht xs)) T : Nat) : Int) ∧ s9 = .bool (decide (0 < cntN (fun k => Mir (colF Wd Ht xs) k ∧ Cen (colF Wd Ht xs) k) T)) ∧ sx = .int .i64 (T : Int) ∧ (Env wr [⟨w.heap.size, 27, [.int .i64 Wd, .int .i64 Ht, .slice (some ad) xs.length k]⟩, ⟨g24, 27, [.int .i64 Wd, .int .i64 Ht, .slice (some ad) xs.length k]⟩, ⟨g4, 104, [.int .i64 Wd, .int .i64 Ht, .slice (some ad) xs.length k, .int .i64 n, .func (.func 82) #[] #[.pointer (some ⟨g24, 0, none⟩)]]⟩] ∧ Below w.heap.size w wr)) (fun _ _ _ sx _ => 4 - (intOf sx).toNat)
              case atStart => exact ⟨0, by omega, rfl, rfl, rfl, rfl, ⟨HE.out, HB.out⟩⟩
              case round =>
                obtain ⟨T, hT4, rfl, rfl, rfl, rfl, ⟨he, hb⟩⟩ := hrel
                clear HB HE
                have HB := Hd.mk hb
                have HE : Hd (Env wr [⟨w.heap.size, 27, [.int .i64 Wd, .int .i64 Ht, .slice (some ad) xs.length k]⟩, ⟨g24, 27, [.int .i64 Wd, .int .i64 Ht, .slice (some ad) xs.length k]⟩, ⟨g4, 104, [.int .i64 Wd, .int .i64 Ht, .slice (some ad) xs.length k, .int .i64 n, .func (.func 82) #[] #[.pointer (some ⟨g24, 0, none⟩)]]⟩]) := ⟨he⟩
                clear he hb
                have c0 := cntN_le (Ex (colF Wd Ht xs) true) T
                have c1 := cntN_le (Mir (colF Wd Ht xs)) T
                have c2 := cntN_le (fun k => Mir (colF Wd Ht xs) k ∧ Cen (colF Wd Ht xs) k) T
                generalize hF : cntN (Ex (colF Wd Ht xs) true) T = fl at *
                generalize hM : cntN (Mir (colF Wd Ht xs)) T = mi at *
                generalize hC : cntN (fun k => Mir (colF Wd Ht xs) k ∧ Cen (colF Wd Ht xs) k) T = ce at *
                generalize hD : decide (0 < ce) = c at *
                have HFL := Hd.mk hF
                have HMI := Hd.mk hM
                have HCE := Hd.mk hC
                have HCD := Hd.mk hD
                clear hF hM hC hD
                by_cases hT : T < 4
                · have HMP := Hd.mk (mirP_iff (show 0 < n by omega) HPER.out hT)
                  have HCP := Hd.mk (cenP_iff (show 0 < n by omega) HPER.out hT)
                  go_upto_region 10 with fail
                  refine wp_region_vd 1 [35] [0] [] 84 [.int .i64 0, .int .i64 0] [isV (.int .i64 (((T : Nat) : Int)))] (by rfl) alloc_Z ?_ ?_
                  · intro qi qh qA aa wx hb hs hd
                    match qi, qh, qA with
                    | 0, _, _ => exact .inl ⟨rfl, op_mv rfl (hs 33 rfl)⟩
                    | qi + 1, h, _ => omega
                  · intro vs X1 hb hv hal hne
                    have HL0 := Hd.mk (HE.out.lt)
                    have HBW := HB
                    replace HB := Hd.mk (bel_then HB.out hb)
                    replace HE : Hd (Env X1 [⟨w.heap.size, 27, [.int .i64 Wd, .int .i64 Ht, .slice (some ad) xs.length k]⟩, ⟨g24, 27, [.int .i64 Wd, .int .i64 Ht, .slice (some ad) xs.length k]⟩, ⟨g4, 104, [.int .i64 Wd, .int .i64 Ht, .slice (some ad) xs.length k, .int .i64 n, .func (.func 82) #[] #[.pointer (some ⟨g24, 0, none⟩)]]⟩]) := ⟨HE.out.to hb⟩
                    have HLS := HL0
                    have e35 : vs 35 = .int .i64 (((T : Nat) : Int)) := hv 0 (by decide) rfl
                    simp only [putAll, List.foldl_cons, List.foldl_nil, Act.put, List.setIfInBounds_toArray, List.set_cons_succ, List.set_cons_zero, List.drop_succ_cons, List.drop_zero, e35]
                    clear hv hal hne hb HL0 HBW HLS e35
                    go_upto_region 11 with fail
                    refine wp_region_vd 5 [36, 37, 38, 39, 11] [1, 2] [4] 107 [.bool false, .bool false, .bool false] [isV (.agg #[.int .i64 Wd, .int .i64 Ht, .slice (some ad) xs.length k, .int .i64 n, .func (.func 82) #[] #[.pointer (some ⟨g24, 0, none⟩)]]), isV (.int .i64 (((T : Nat) : Int))), isV (.agg #[.int .i64 0, .int .i64 0, .int .i64 (((T : Nat) : Int)), .bool true]), isV (.agg #[.bool (bP (Ex (colF Wd Ht xs) true T)), .bool (bP (MirP n (colF Wd Ht xs) true T)), .bool (bP (MirP n (colF Wd Ht xs) true T ∧ CenP n (colF Wd Ht xs) true T))]), SP.any] (by rfl) alloc_C ?_ ?_
                    · intro qi qh qA aa wx hb hs hd
                      match qi, qh, qA with
                      | 0, _, _ => exact .inl ⟨rfl, op_ldP rfl rfl (hs 4 rfl) ((HE.out.to hb).get 2 rfl)⟩
                      | 1, _, _ => exact .inl ⟨rfl, op_mv rfl (hs 10 rfl)⟩
                      | 2, _, _ => exact .inl ⟨rfl, ⟨_, op_buM23 rfl (hd 1 rfl) rfl, rfl⟩⟩
                      | 3, _, _ => exact .inl ⟨rfl, op_call2 rfl rfl Try.call67 (by rw [(show aa.eval (.tmp 36) = .agg #[.int .i64 Wd, .int .i64 Ht, .slice (some ad) xs.length k, .int .i64 n, .func (.func 82) #[] #[.pointer (some ⟨g24, 0, none⟩)]] from (hd 0 rfl)), (show aa.eval (.tmp 38) = .agg #[.int .i64 0, .int .i64 0, .int .i64 (((T : Nat) : Int)), .bool true] from (hd 2 rfl))]; exact class_got Wd Ht ad k xs g24 n true T HW.out HH.out _ (HRI.out.to (bel_then HB.out hb)) HL.out ((HE.out.to hb).get 1 rfl) hn1 HPER.out (by omega))⟩
                      | 4, _, h => cases h
                      | qi + 5, h, _ => omega
                    · intro vs X2 hb hv hal hne
                      have HL0 := Hd.mk (HE.out.lt)
                      have HBW := HB
                      replace HB := Hd.mk (bel_then HB.out hb)
                      replace HE : Hd (Env X2 [⟨w.heap.size, 27, [.int .i64 Wd, .int .i64 Ht, .slice (some ad) xs.length k]⟩, ⟨g24, 27, [.int .i64 Wd, .int .i64 Ht, .slice (some ad) xs.length k]⟩, ⟨g4, 104, [.int .i64 Wd, .int .i64 Ht, .slice (some ad) xs.length k, .int .i64 n, .func (.func 82) #[] #[.pointer (some ⟨g24, 0, none⟩)]]⟩]) := ⟨HE.out.to hb⟩
                      have HLS := HL0
                      have e39 : vs 39 = .agg #[.bool (bP (Ex (colF Wd Ht xs) true T)), .bool (bP (MirP n (colF Wd Ht xs) true T)), .bool (bP (MirP n (colF Wd Ht xs) true T ∧ CenP n (colF Wd Ht xs) true T))] := hv 3 (by decide) rfl
                      obtain ⟨g11, e11, l11, b11⟩ : ∃ g, vs 11 = .pointer (some ⟨g, 0, none⟩) ∧ _ := hal 4 rfl
                      replace HE : Hd (Env X2 [⟨w.heap.size, 27, [.int .i64 Wd, .int .i64 Ht, .slice (some ad) xs.length k]⟩, ⟨g24, 27, [.int .i64 Wd, .int .i64 Ht, .slice (some ad) xs.length k]⟩, ⟨g4, 104, [.int .i64 Wd, .int .i64 Ht, .slice (some ad) xs.length k, .int .i64 n, .func (.func 82) #[] #[.pointer (some ⟨g24, 0, none⟩)]]⟩, ⟨g11, 107, [.bool false, .bool false, .bool false]⟩]) := ⟨Env.addne (e := ⟨g11, 107, [.bool false, .bool false, .bool false]⟩) HE.out b11 (fun e' he => Nat.ne_of_lt (Nat.lt_of_lt_of_le (HL0.out e' he) l11))⟩
                      have G11 : Hd (w.heap.size ≤ g11) := ⟨Nat.le_trans HBW.out.size l11⟩
                      simp only [putAll, List.foldl_cons, List.foldl_nil, Act.put, List.setIfInBounds_toArray, List.set_cons_succ, List.set_cons_zero, List.drop_succ_cons, List.drop_zero, e39, e11]
                      generalize vs 36 = s36
                      generalize vs 37 = s37
                      generalize vs 38 = s38
                      clear hv hal hne hb HL0 HBW HLS e39 e11 l11 b11
                      refine wpList_st rfl rfl rfl rfl rfl (sto_C (HE.out.get 3 rfl)) ?_
                      have HE' : Env (putL X2 g11 0 [.bool (bP (Ex (colF Wd Ht xs) true T)), .bool (bP (MirP n (colF Wd Ht xs) true T)), .bool (bP (MirP n (colF Wd Ht xs) true T ∧ CenP n (colF Wd Ht xs) true T))]) [⟨w.heap.size, 27, [.int .i64 Wd, .int .i64 Ht, .slice (some ad) xs.length k]⟩, ⟨g24, 27, [.int .i64 Wd, .int .i64 Ht, .slice (some ad) xs.length k]⟩, ⟨g4, 104, [.int .i64 Wd, .int .i64 Ht, .slice (some ad) xs.length k, .int .i64 n, .func (.func 82) #[] #[.pointer (some ⟨g24, 0, none⟩)]]⟩, ⟨g11, 107, [.bool (bP (Ex (colF Wd Ht xs) true T)), .bool (bP (MirP n (colF Wd Ht xs) true T)), .bool (bP (MirP n (colF Wd Ht xs) true T ∧ CenP n (colF Wd Ht xs) true T))]⟩] := HE.out.putF 3 rfl rfl
                      have HB' := putL_below (show w.heap.size ≤ g11 from G11.out) [.bool (bP (Ex (colF Wd Ht xs) true T)), .bool (bP (MirP n (colF Wd Ht xs) true T)), .bool (bP (MirP n (colF Wd Ht xs) true T ∧ CenP n (colF Wd Ht xs) true T))] _ 0 HB.out
                      generalize putL X2 g11 0 [.bool (bP (Ex (colF Wd Ht xs) true T)), .bool (bP (MirP n (colF Wd Ht xs) true T)), .bool (bP (MirP n (colF Wd Ht xs) true T ∧ CenP n (colF Wd Ht xs) true T))] = X3 at *
                      replace HE := Hd.mk HE'
                      replace HB := Hd.mk HB'
                      clear HE' HB'
                      by_cases hx0 : Ex (colF Wd Ht xs) true T
                      · have HX0 := Hd.mk hx0
                        clear hx0
                        go_upto_region 12 with fail
                        refine wp_region_vd 2 [40, 41] [0] [] 84 [.int .i64 0, .int .i64 0] [isV (.pointer (some ⟨g11, 0, none⟩)), isV (.bool true)] (by rfl) alloc_Z ?_ ?_
                        · intro qi qh qA aa wx hb hs hd
                          match qi, qh, qA with
                          | 0, _, _ => exact .inl ⟨rfl, ⟨_, op_faC0 rfl (hs 11 rfl), rfl⟩⟩
                          | 1, _, _ => exact .inl ⟨rfl, wp_b (bool_eq (bP_true.2 HX0.out)) (op_ldB rfl rfl (hd 0 rfl) ((HE.out.to hb).cell 3 0 rfl rfl))⟩
                          | qi + 2, h, _ => omega
                        · intro vs X4 hb hv hal hne
                          have HL0 := Hd.mk (HE.out.lt)
                          have HBW := HB
                          replace HB := Hd.mk (bel_then HB.out hb)
                          replace HE : Hd (Env X4 [⟨w.heap.size, 27, [.int .i64 Wd, .int .i64 Ht, .slice (some ad) xs.length k]⟩, ⟨g24, 27, [.int .i64 Wd, .int .i64 Ht, .slice (some ad) xs.length k]⟩, ⟨g4, 104, [.int .i64 Wd, .int .i64 Ht, .slice (some ad) xs.length k, .int .i64 n, .func (.func 82) #[] #[.pointer (some ⟨g24, 0, none⟩)]]⟩, ⟨g11, 107, [.bool (bP (Ex (colF Wd Ht xs) true T)), .bool (bP (MirP n (colF Wd Ht xs) true T)), .bool (bP (MirP n (colF Wd Ht xs) true T ∧ CenP n (colF Wd Ht xs) true T))]⟩]) := ⟨HE.out.to hb⟩
                          have HLS := HL0
                          have e41 : vs 41 = .bool true := hv 1 (by decide) rfl
                          simp only [putAll, List.foldl_cons, List.foldl_nil, Act.put, List.setIfInBounds_toArray, List.set_cons_succ, List.set_cons_zero, List.drop_succ_cons, List.drop_zero, e41]
                          generalize vs 40 = s40
                          clear hv hal hne hb HL0 HBW HLS e41
                          go_upto_region 13 with fail
                          refine wp_region_vd 2 [42, 43] [0, 1] [] 84 [.int .i64 0, .int .i64 0] [isV (.int .i64 (((fl : Nat) : Int))), isV (.int .i64 ((((fl : Nat) : Int)) + 1))] (by rfl) alloc_Z ?_ ?_
                          · intro qi qh qA aa wx hb hs hd
                            match qi, qh, qA with
                            | 0, _, _ => exact .inl ⟨rfl, op_mv rfl (hs 7 rfl)⟩
                            | 1, _, _ => exact .inl ⟨rfl, ⟨_, op_add (by unfold Fit; omega) rfl (hd 0 rfl) rfl, rfl⟩⟩
                            | qi + 2, h, _ => omega
                          · intro vs X5 hb hv hal hne
                            have HL0 := Hd.mk (HE.out.lt)
                            have HBW := HB
                            replace HB := Hd.mk (bel_then HB.out hb)
                            replace HE : Hd (Env X5 [⟨w.heap.size, 27, [.int .i64 Wd, .int .i64 Ht, .slice (some ad) xs.length k]⟩, ⟨g24, 27, [.int .i64 Wd, .int .i64 Ht, .slice (some ad) xs.length k]⟩, ⟨g4, 104, [.int .i64 Wd, .int .i64 Ht, .slice (some ad) xs.length k, .int .i64 n, .func (.func 82) #[] #[.pointer (some ⟨g24, 0, none⟩)]]⟩, ⟨g11, 107, [.bool (bP (Ex (colF Wd Ht xs) true T)), .bool (bP (MirP n (colF Wd Ht xs) true T)), .bool (bP (MirP n (colF Wd Ht xs) true T ∧ CenP n (colF Wd Ht xs) true T))]⟩]) := ⟨HE.out.to hb⟩
                            have HLS := HL0
                            have e43 : vs 43 = .int .i64 ((((fl : Nat) : Int)) + 1) := hv 1 (by decide) rfl
                            simp only [putAll, List.foldl_cons, List.foldl_nil, Act.put, List.setIfInBounds_toArray, List.set_cons_succ, List.set_cons_zero, List.drop_succ_cons, List.drop_zero, e43]
                            generalize vs 42 = s42
                            clear hv hal hne hb HL0 HBW HLS e43
                            by_cases hx1 : Mir (colF Wd Ht xs) T
                            · have HX1 := Hd.mk hx1
                              clear hx1
                              go_upto_region 14 with fail
                              refine wp_region_vd 2 [44, 45] [0] [] 84 [.int .i64 0, .int .i64 0] [isV (.pointer (some ⟨g11, 1, none⟩)), isV (.bool true)] (by rfl) alloc_Z ?_ ?_
                              · intro qi qh qA aa wx hb hs hd
                                match qi, qh, qA with
                                | 0, _, _ => exact .inl ⟨rfl, ⟨_, op_faC1 rfl (hs 11 rfl), rfl⟩⟩
                                | 1, _, _ => exact .inl ⟨rfl, wp_b (bool_eq (bP_true.2 (HMP.out.2 HX1.out))) (op_ldB rfl rfl (hd 0 rfl) ((HE.out.to hb).cell 3 1 rfl rfl))⟩
                                | qi + 2, h, _ => omega
                              · intro vs X6 hb hv hal hne
                                have HL0 := Hd.mk (HE.out.lt)
                                have HBW := HB
                                replace HB := Hd.mk (bel_then HB.out hb)
                                replace HE : Hd (Env X6 [⟨w.heap.size, 27, [.int .i64 Wd, .int .i64 Ht, .slice (some ad) xs.length k]⟩, ⟨g24, 27, [.int .i64 Wd, .int .i64 Ht, .slice (some ad) xs.length k]⟩, ⟨g4, 104, [.int .i64 Wd, .int .i64 Ht, .slice (some ad) xs.length k, .int .i64 n, .func (.func 82) #[] #[.pointer (some ⟨g24, 0, none⟩)]]⟩, ⟨g11, 107, [.bool (bP (Ex (colF Wd Ht xs) true T)), .bool (bP (MirP n (colF Wd Ht xs) true T)), .bool (bP (MirP n (colF Wd Ht xs) true T ∧ CenP n (colF Wd Ht xs) true T))]⟩]) := ⟨HE.out.to hb⟩
                                have HLS := HL0
                                have e45 : vs 45 = .bool true := hv 1 (by decide) rfl
                                simp only [putAll, List.foldl_cons, List.foldl_nil, Act.put, List.setIfInBounds_toArray, List.set_cons_succ, List.set_cons_zero, List.drop_succ_cons, List.drop_zero, e45]
                                generalize vs 44 = s44
                                clear hv hal hne hb HL0 HBW HLS e45
                                go_upto_region 15 with fail
                                refine wp_region_vd 2 [46, 47] [0, 1] [] 84 [.int .i64 0, .int .i64 0] [isV (.int .i64 (((mi : Nat) : Int))), isV (.int .i64 ((((mi : Nat) : Int)) + 1))] (by rfl) alloc_Z ?_ ?_
                                · intro qi qh qA aa wx hb hs hd
                                  match qi, qh, qA with
                                  | 0, _, _ => exact .inl ⟨rfl, op_mv rfl (hs 8 rfl)⟩
                                  | 1, _, _ => exact .inl ⟨rfl, ⟨_, op_add (by unfold Fit; omega) rfl (hd 0 rfl) rfl, rfl⟩⟩
                                  | qi + 2, h, _ => omega
                                · intro vs X7 hb hv hal hne
                                  have HL0 := Hd.mk (HE.out.lt)
                                  have HBW := HB
                                  replace HB := Hd.mk (bel_then HB.out hb)
                                  replace HE : Hd (Env X7 [⟨w.heap.size, 27, [.int .i64 Wd, .int .i64 Ht, .slice (some ad) xs.length k]⟩, ⟨g24, 27, [.int .i64 Wd, .int .i64 Ht, .slice (some ad) xs.length k]⟩, ⟨g4, 104, [.int .i64 Wd, .int .i64 Ht, .slice (some ad) xs.length k, .int .i64 n, .func (.func 82) #[] #[.pointer (some ⟨g24, 0, none⟩)]]⟩, ⟨g11, 107, [.bool (bP (Ex (colF Wd Ht xs) true T)), .bool (bP (MirP n (colF Wd Ht xs) true T)), .bool (bP (MirP n (colF Wd Ht xs) true T ∧ CenP n (colF Wd Ht xs) true T))]⟩]) := ⟨HE.out.to hb⟩
                                  have HLS := HL0
                                  have e47 : vs 47 = .int .i64 ((((mi : Nat) : Int)) + 1) := hv 1 (by decide) rfl
                                  simp only [putAll, List.foldl_cons, List.foldl_nil, Act.put, List.setIfInBounds_toArray, List.set_cons_succ, List.set_cons_zero, List.drop_succ_cons, List.drop_zero, e47]
                                  generalize vs 46 = s46
                                  clear hv hal hne hb HL0 HBW HLS e47
                                  by_cases hx2 : Mir (colF Wd Ht xs) T ∧ Cen (colF Wd Ht xs) T
                                  · have HX2 := Hd.mk hx2
                                    clear hx2
                                    rcases (show c = true ∨ c = false by cases c <;> simp) with hc0 | hc0
                                    · have HC0 := Hd.mk hc0
                                      clear hc0
                                      go_upto_region 16 with fail
                                      refine wp_region_vd 5 [48, 49, 50, 51, 52] [0, 1, 4] [] 84 [.int .i64 0, .int .i64 0] [isV (.bool true), isV (.bool true), isV undef, isV undef, isV (.bool true)] (by rfl) alloc_Z ?_ ?_
                                      · intro qi qh qA aa wx hb hs hd
                                        match qi, qh, qA with
                                        | 0, _, _ => exact .inl ⟨rfl, pure_b (bool_eq HC0.out) (op_mv rfl (hs 9 rfl))⟩
                                        | 1, _, _ => exact .inl ⟨rfl, op_mv rfl (hd 0 rfl)⟩
                                        | 2, _, _ => exact .inr ⟨⟨rfl, .inl (hd 1 rfl)⟩, rfl⟩
                                        | 3, _, _ => exact .inr ⟨⟨rfl, .inl (hd 1 rfl)⟩, rfl⟩
                                        | 4, _, _ => exact .inl ⟨rfl, ⟨_, op_pickT rfl (hd 1 rfl) rfl, rfl⟩⟩
                                        | qi + 5, h, _ => omega
                                      · intro vs X8 hb hv hal hne
                                        have HL0 := Hd.mk (HE.out.lt)
                                        have HBW := HB
                                        replace HB := Hd.mk (bel_then HB.out hb)
                                        replace HE : Hd (Env X8 [⟨w.heap.size, 27, [.int .i64 Wd, .int .i64 Ht, .slice (some ad) xs.length k]⟩, ⟨g24, 27, [.int .i64 Wd, .int .i64 Ht, .slice (some ad) xs.length k]⟩, ⟨g4, 104, [.int .i64 Wd, .int .i64 Ht, .slice (some ad) xs.length k, .int .i64 n, .func (.func 82) #[] #[.pointer (some ⟨g24, 0, none⟩)]]⟩, ⟨g11, 107, [.bool (bP (Ex (colF Wd Ht xs) true T)), .bool (bP (MirP n (colF Wd Ht xs) true T)), .bool (bP (MirP n (colF Wd Ht xs) true T ∧ CenP n (colF Wd Ht xs) true T))]⟩]) := ⟨HE.out.to hb⟩
                                        have HLS := HL0
                                        have e52 : vs 52 = .bool true := hv 4 (by decide) rfl
                                        simp only [putAll, List.foldl_cons, List.foldl_nil, Act.put, List.setIfInBounds_toArray, List.set_cons_succ, List.set_cons_zero, List.drop_succ_cons, List.drop_zero, e52]
                                        generalize vs 48 = s48
                                        generalize vs 49 = s49
                                        generalize vs 50 = s50
                                        generalize vs 51 = s51
                                        clear hv hal hne hb HL0 HBW HLS e52
                                        go_wp2_with fail
                                        go_roundw
                                        case rel => exact ⟨T + 1, by omega, by rw [cntN_yes (p := (Ex (colF Wd Ht xs) true)) HX0.out, HFL.out]; go_num, by rw [cntN_yes (p := (Mir (colF Wd Ht xs))) HX1.out, HMI.out]; go_num, by rw [cntN_yes (p := (fun k => Mir (colF Wd Ht xs) k ∧ Cen (colF Wd Ht xs) k)) HX2.out]; exact (congrArg Value.bool (decide_eq_true (Nat.succ_pos _))).symm, by go_num, ⟨Env.front (L := [⟨w.heap.size, 27, [.int .i64 Wd, .int .i64 Ht, .slice (some ad) xs.length k]⟩, ⟨g24, 27, [.int .i64 Wd, .int .i64 Ht, .slice (some ad) xs.length k]⟩, ⟨g4, 104, [.int .i64 Wd, .int .i64 Ht, .slice (some ad) xs.length k, .int .i64 n, .func (.func 82) #[] #[.pointer (some ⟨g24, 0, none⟩)]]⟩]) HE.out, HB.out⟩⟩
                                        case measure => simp [intOf]; omega
                                    · have HC0 := Hd.mk hc0
                                      clear hc0
                                      go_upto_region 16 with fail
                                      refine wp_region_vd 5 [48, 49, 50, 51, 52] [0, 1, 2, 4] [] 84 [.int .i64 0, .int .i64 0] [isV (.bool false), isV (.bool false), isV (.pointer (some ⟨g11, 2, none⟩)), isV (.bool true), isV (.bool true)] (by rfl) alloc_Z ?_ ?_
                                      · intro qi qh qA aa wx hb hs hd
                                        match qi, qh, qA with
                                        | 0, _, _ => exact .inl ⟨rfl, pure_b (bool_eq HC0.out) (op_mv rfl (hs 9 rfl))⟩
                                        | 1, _, _ => exact .inl ⟨rfl, op_mv rfl (hd 0 rfl)⟩
                                        | 2, _, _ => exact .inl ⟨⟨rfl, .inl (hd 1 rfl)⟩, ⟨_, op_faC2 rfl (hs 11 rfl), rfl⟩⟩
                                        | 3, _, _ => exact .inl ⟨⟨rfl, .inl (hd 1 rfl)⟩, wp_b (bool_eq (bP_true.2 ⟨HMP.out.2 HX2.out.1, HCP.out.2 HX2.out.2⟩)) (op_ldB rfl rfl (hd 2 rfl) ((HE.out.to hb).cell 3 2 rfl rfl))⟩
                                        | 4, _, _ => exact .inl ⟨rfl, ⟨_, op_pickF rfl (hd 1 rfl) (hd 3 rfl), rfl⟩⟩
                                        | qi + 5, h, _ => omega
                                      · intro vs X8 hb hv hal hne
                                        have HL0 := Hd.mk (HE.out.lt)
                                        have HBW := HB
                                        replace HB := Hd.mk (bel_then HB.out hb)
                                        replace HE : Hd (Env X8 [⟨w.heap.size, 27, [.int .i64 Wd, .int .i64 Ht, .slice (some ad) xs.length k]⟩, ⟨g24, 27, [.int .i64 Wd, .int .i64 Ht, .slice (some ad) xs.length k]⟩, ⟨g4, 104, [.int .i64 Wd, .int .i64 Ht, .slice (some ad) xs.length k, .int .i64 n, .func (.func 82) #[] #[.pointer (some ⟨g24, 0, none⟩)]]⟩, ⟨g11, 107, [.bool (bP (Ex (colF Wd Ht xs) true T)), .bool (bP (MirP n (colF Wd Ht xs) true T)), .bool (bP (MirP n (colF Wd Ht xs) true T ∧ CenP n (colF Wd Ht xs) true T))]⟩]) := ⟨HE.out.to hb⟩
                                        have HLS := HL0
                                        have e52 : vs 52 = .bool true := hv 4 (by decide) rfl
                                        simp only [putAll, List.foldl_cons, List.foldl_nil, Act.put, List.setIfInBounds_toArray, List.set_cons_succ, List.set_cons_zero, List.drop_succ_cons, List.drop_zero, e52]
                                        generalize vs 48 = s48
                                        generalize vs 49 = s49
                                        generalize vs 50 = s50
                                        generalize vs 51 = s51
                                        clear hv hal hne hb HL0 HBW HLS e52
                                        go_wp2_with fail
                                        go_roundw
                                        case rel => exact ⟨T + 1, by omega, by rw [cntN_yes (p := (Ex (colF Wd Ht xs) true)) HX0.out, HFL.out]; go_num, by rw [cntN_yes (p := (Mir (colF Wd Ht xs))) HX1.out, HMI.out]; go_num, by rw [cntN_yes (p := (fun k => Mir (colF Wd Ht xs) k ∧ Cen (colF Wd Ht xs) k)) HX2.out]; exact (congrArg Value.bool (decide_eq_true (Nat.succ_pos _))).symm, by go_num, ⟨Env.front (L := [⟨w.heap.size, 27, [.int .i64 Wd, .int .i64 Ht, .slice (some ad) xs.length k]⟩, ⟨g24, 27, [.int .i64 Wd, .int .i64 Ht, .slice (some ad) xs.length k]⟩, ⟨g4, 104, [.int .i64 Wd, .int .i64 Ht, .slice (some ad) xs.length k, .int .i64 n, .func (.func 82) #[] #[.pointer (some ⟨g24, 0, none⟩)]]⟩]) HE.out, HB.out⟩⟩
                                        case measure => simp [intOf]; omega
                                  · have HX2 := Hd.mk hx2
                                    clear hx2
                                    rcases (show c = true ∨ c = false by cases c <;> simp) with hc0 | hc0
                                    · have HC0 := Hd.mk hc0
                                      clear hc0
                                      go_upto_region 16 with fail
                                      refine wp_region_vd 5 [48, 49, 50, 51, 52] [0, 1, 4] [] 84 [.int .i64 0, .int .i64 0] [isV (.bool true), isV (.bool true), isV undef, isV undef, isV (.bool true)] (by rfl) alloc_Z ?_ ?_
                                      · intro qi qh qA aa wx hb hs hd
                                        match qi, qh, qA with
                                        | 0, _, _ => exact .inl ⟨rfl, pure_b (bool_eq HC0.out) (op_mv rfl (hs 9 rfl))⟩
                                        | 1, _, _ => exact .inl ⟨rfl, op_mv rfl (hd 0 rfl)⟩
                                        | 2, _, _ => exact .inr ⟨⟨rfl, .inl (hd 1 rfl)⟩, rfl⟩
                                        | 3, _, _ => exact .inr ⟨⟨rfl, .inl (hd 1 rfl)⟩, rfl⟩
                                        | 4, _, _ => exact .inl ⟨rfl, ⟨_, op_pickT rfl (hd 1 rfl) rfl, rfl⟩⟩
                                        | qi + 5, h, _ => omega
                                      · intro vs X8 hb hv hal hne
                                        have HL0 := Hd.mk (HE.out.lt)
                                        have HBW := HB
                                        replace HB := Hd.mk (bel_then HB.out hb)
                                        replace HE : Hd (Env X8 [⟨w.heap.size, 27, [.int .i64 Wd, .int .i64 Ht, .slice (some ad) xs.length k]⟩, ⟨g24, 27, [.int .i64 Wd, .int .i64 Ht, .slice (some ad) xs.length k]⟩, ⟨g4, 104, [.int .i64 Wd, .int .i64 Ht, .slice (some ad) xs.length k, .int .i64 n, .func (.func 82) #[] #[.pointer (some ⟨g24, 0, none⟩)]]⟩, ⟨g11, 107, [.bool (bP (Ex (colF Wd Ht xs) true T)), .bool (bP (MirP n (colF Wd Ht xs) true T)), .bool (bP (MirP n (colF Wd Ht xs) true T ∧ CenP n (colF Wd Ht xs) true T))]⟩]) := ⟨HE.out.to hb⟩
                                        have HLS := HL0
                                        have e52 : vs 52 = .bool true := hv 4 (by decide) rfl
                                        simp only [putAll, List.foldl_cons, List.foldl_nil, Act.put, List.setIfInBounds_toArray, List.set_cons_succ, List.set_cons_zero, List.drop_succ_cons, List.drop_zero, e52]
                                        generalize vs 48 = s48
                                        generalize vs 49 = s49
                                        generalize vs 50 = s50
                                        generalize vs 51 = s51
                                        clear hv hal hne hb HL0 HBW HLS e52
                                        go_wp2_with fail
                                        go_roundw
                                        case rel => exact ⟨T + 1, by omega, by rw [cntN_yes (p := (Ex (colF Wd Ht xs) true)) HX0.out, HFL.out]; go_num, by rw [cntN_yes (p := (Mir (colF Wd Ht xs))) HX1.out, HMI.out]; go_num, by rw [cntN_no (p := (fun k => Mir (colF Wd Ht xs) k ∧ Cen (colF Wd Ht xs) k)) HX2.out, HCE.out, HCD.out, HC0.out], by go_num, ⟨Env.front (L := [⟨w.heap.size, 27, [.int .i64 Wd, .int .i64 Ht, .slice (some ad) xs.length k]⟩, ⟨g24, 27, [.int .i64 Wd, .int .i64 Ht, .slice (some ad) xs.length k]⟩, ⟨g4, 104, [.int .i64 Wd, .int .i64 Ht, .slice (some ad) xs.length k, .int .i64 n, .func (.func 82) #[] #[.pointer (some ⟨g24, 0, none⟩)]]⟩]) HE.out, HB.out⟩⟩
                                        case measure => simp [intOf]; omega
                                    · have HC0 := Hd.mk hc0
                                      clear hc0
                                      go_upto_region 16 with fail
                                      refine wp_region_vd 5 [48, 49, 50, 51, 52] [0, 1, 2, 4] [] 84 [.int .i64 0, .int .i64 0] [isV (.bool false), isV (.bool false), isV (.pointer (some ⟨g11, 2, none⟩)), isV (.bool false), isV (.bool false)] (by rfl) alloc_Z ?_ ?_
                                      · intro qi qh qA aa wx hb hs hd
                                        match qi, qh, qA with
                                        | 0, _, _ => exact .inl ⟨rfl, pure_b (bool_eq HC0.out) (op_mv rfl (hs 9 rfl))⟩
                                        | 1, _, _ => exact .inl ⟨rfl, op_mv rfl (hd 0 rfl)⟩
                                        | 2, _, _ => exact .inl ⟨⟨rfl, .inl (hd 1 rfl)⟩, ⟨_, op_faC2 rfl (hs 11 rfl), rfl⟩⟩
                                        | 3, _, _ => exact .inl ⟨⟨rfl, .inl (hd 1 rfl)⟩, wp_b (bool_eq (bP_false.2 (fun h7 => HX2.out ⟨HMP.out.1 h7.1, HCP.out.1 h7.2⟩))) (op_ldB rfl rfl (hd 2 rfl) ((HE.out.to hb).cell 3 2 rfl rfl))⟩
                                        | 4, _, _ => exact .inl ⟨rfl, ⟨_, op_pickF rfl (hd 1 rfl) (hd 3 rfl), rfl⟩⟩
                                        | qi + 5, h, _ => omega
                                      · intro vs X8 hb hv hal hne
                                        have HL0 := Hd.mk (HE.out.lt)
                                        have HBW := HB
                                        replace HB := Hd.mk (bel_then HB.out hb)
                                        replace HE : Hd (Env X8 [⟨w.heap.size, 27, [.int .i64 Wd, .int .i64 Ht, .slice (some ad) xs.length k]⟩, ⟨g24, 27, [.int .i64 Wd, .int .i64 Ht, .slice (some ad) xs.length k]⟩, ⟨g4, 104, [.int .i64 Wd, .int .i64 Ht, .slice (some ad) xs.length k, .int .i64 n, .func (.func 82) #[] #[.pointer (some ⟨g24, 0, none⟩)]]⟩, ⟨g11, 107, [.bool (bP (Ex (colF Wd Ht xs) true T)), .bool (bP (MirP n (colF Wd Ht xs) true T)), .bool (bP (MirP n (colF Wd Ht xs) true T ∧ CenP n (colF Wd Ht xs) true T))]⟩]) := ⟨HE.out.to hb⟩
                                        have HLS := HL0
                                        have e52 : vs 52 = .bool false := hv 4 (by decide) rfl
                                        simp only [putAll, List.foldl_cons, List.foldl_nil, Act.put, List.setIfInBounds_toArray, List.set_cons_succ, List.set_cons_zero, List.drop_succ_cons, List.drop_zero, e52]
                                        generalize vs 48 = s48
                                        generalize vs 49 = s49
                                        generalize vs 50 = s50
                                        generalize vs 51 = s51
                                        clear hv hal hne hb HL0 HBW HLS e52
                                        go_wp2_with fail
                                        go_roundw
                                        case rel => exact ⟨T + 1, by omega, by rw [cntN_yes (p := (Ex (colF Wd Ht xs) true)) HX0.out, HFL.out]; go_num, by rw [cntN_yes (p := (Mir (colF Wd Ht xs))) HX1.out, HMI.out]; go_num, by rw [cntN_no (p := (fun k => Mir (colF Wd Ht xs) k ∧ Cen (colF Wd Ht xs) k)) HX2.out, HCE.out, HCD.out, HC0.out], by go_num, ⟨Env.front (L := [⟨w.heap.size, 27, [.int .i64 Wd, .int .i64 Ht, .slice (some ad) xs.length k]⟩, ⟨g24, 27, [.int .i64 Wd, .int .i64 Ht, .slice (some ad) xs.length k]⟩, ⟨g4, 104, [.int .i64 Wd, .int .i64 Ht, .slice (some ad) xs.length k, .int .i64 n, .func (.func 82) #[] #[.pointer (some ⟨g24, 0, none⟩)]]⟩]) HE.out, HB.out⟩⟩
                                        case measure => simp [intOf]; omega
                            · have HX1 := Hd.mk hx1
                              clear hx1
                              go_upto_region 14 with fail
                              refine wp_region_vd 2 [44, 45] [0] [] 84 [.int .i64 0, .int .i64 0] [isV (.pointer (some ⟨g11, 1, none⟩)), isV (.bool false)] (by rfl) alloc_Z ?_ ?_
                              · intro qi qh qA aa wx hb hs hd
                                match qi, qh, qA with
                                | 0, _, _ => exact .inl ⟨rfl, ⟨_, op_faC1 rfl (hs 11 rfl), rfl⟩⟩
                                | 1, _, _ => exact .inl ⟨rfl, wp_b (bool_eq (bP_false.2 (fun h7 => HX1.out (HMP.out.1 h7)))) (op_ldB rfl rfl (hd 0 rfl) ((HE.out.to hb).cell 3 1 rfl rfl))⟩
                                | qi + 2, h, _ => omega
                              · intro vs X6 hb hv hal hne
                                have HL0 := Hd.mk (HE.out.lt)
                                have HBW := HB
                                replace HB := Hd.mk (bel_then HB.out hb)
                                replace HE : Hd (Env X6 [⟨w.heap.size, 27, [.int .i64 Wd, .int .i64 Ht, .slice (some ad) xs.length k]⟩, ⟨g24, 27, [.int .i64 Wd, .int .i64 Ht, .slice (some ad) xs.length k]⟩, ⟨g4, 104, [.int .i64 Wd, .int .i64 Ht, .slice (some ad) xs.length k, .int .i64 n, .func (.func 82) #[] #[.pointer (some ⟨g24, 0, none⟩)]]⟩, ⟨g11, 107, [.bool (bP (Ex (colF Wd Ht xs) true T)), .bool (bP (MirP n (colF Wd Ht xs) true T)), .bool (bP (MirP n (colF Wd Ht xs) true T ∧ CenP n (colF Wd Ht xs) true T))]⟩]) := ⟨HE.out.to hb⟩
                                have HLS := HL0
                                have e45 : vs 45 = .bool false := hv 1 (by decide) rfl
                                simp only [putAll, List.foldl_cons, List.foldl_nil, Act.put, List.setIfInBounds_toArray, List.set_cons_succ, List.set_cons_zero, List.drop_succ_cons, List.drop_zero, e45]
                                generalize vs 44 = s44
                                clear hv hal hne hb HL0 HBW HLS e45
                                by_cases hx2 : Mir (colF Wd Ht xs) T ∧ Cen (colF Wd Ht xs) T
                                · have HX2 := Hd.mk hx2
                                  clear hx2
                                  rcases (show c = true ∨ c = false by cases c <;> simp) with hc0 | hc0
                                  · have HC0 := Hd.mk hc0
                                    clear hc0
                                    go_upto_region 16 with fail
                                    refine wp_region_vd 5 [48, 49, 50, 51, 52] [0, 1, 4] [] 84 [.int .i64 0, .int .i64 0] [isV (.bool true), isV (.bool true), isV undef, isV undef, isV (.bool true)] (by rfl) alloc_Z ?_ ?_
                                    · intro qi qh qA aa wx hb hs hd
                                      match qi, qh, qA with
                                      | 0, _, _ => exact .inl ⟨rfl, pure_b (bool_eq HC0.out) (op_mv rfl (hs 9 rfl))⟩
                                      | 1, _, _ => exact .inl ⟨rfl, op_mv rfl (hd 0 rfl)⟩
                                      | 2, _, _ => exact .inr ⟨⟨rfl, .inl (hd 1 rfl)⟩, rfl⟩
                                      | 3, _, _ => exact .inr ⟨⟨rfl, .inl (hd 1 rfl)⟩, rfl⟩
                                      | 4, _, _ => exact .inl ⟨rfl, ⟨_, op_pickT rfl (hd 1 rfl) rfl, rfl⟩⟩
                                      | qi + 5, h, _ => omega
                                    · intro vs X7 hb hv hal hne
                                      have HL0 := Hd.mk (HE.out.lt)
                                      have HBW := HB
                                      replace HB := Hd.mk (bel_then HB.out hb)
                                      replace HE : Hd (Env X7 [⟨w.heap.size, 27, [.int .i64 Wd, .int .i64 Ht, .slice (some ad) xs.length k]⟩, ⟨g24, 27, [.int .i64 Wd, .int .i64 Ht, .slice (some ad) xs.length k]⟩, ⟨g4, 104, [.int .i64 Wd, .int .i64 Ht, .slice (some ad) xs.length k, .int .i64 n, .func (.func 82) #[] #[.pointer (some ⟨g24, 0, none⟩)]]⟩, ⟨g11, 107, [.bool (bP (Ex (colF Wd Ht xs) true T)), .bool (bP (MirP n (colF Wd Ht xs) true T)), .bool (bP (MirP n (colF Wd Ht xs) true T ∧ CenP n (colF Wd Ht xs) true T))]⟩]) := ⟨HE.out.to hb⟩
                                      have HLS := HL0
                                      have e52 : vs 52 = .bool true := hv 4 (by decide) rfl
                                      simp only [putAll, List.foldl_cons, List.foldl_nil, Act.put, List.setIfInBounds_toArray, List.set_cons_succ, List.set_cons_zero, List.drop_succ_cons, List.drop_zero, e52]
                                      generalize vs 48 = s48
                                      generalize vs 49 = s49
                                      generalize vs 50 = s50
                                      generalize vs 51 = s51
                                      clear hv hal hne hb HL0 HBW HLS e52
                                      go_wp2_with fail
                                      go_roundw
                                      case rel => exact ⟨T + 1, by omega, by rw [cntN_yes (p := (Ex (colF Wd Ht xs) true)) HX0.out, HFL.out]; go_num, by rw [cntN_no (p := (Mir (colF Wd Ht xs))) HX1.out, HMI.out], by rw [cntN_yes (p := (fun k => Mir (colF Wd Ht xs) k ∧ Cen (colF Wd Ht xs) k)) HX2.out]; exact (congrArg Value.bool (decide_eq_true (Nat.succ_pos _))).symm, by go_num, ⟨Env.front (L := [⟨w.heap.size, 27, [.int .i64 Wd, .int .i64 Ht, .slice (some ad) xs.length k]⟩, ⟨g24, 27, [.int .i64 Wd, .int .i64 Ht, .slice (some ad) xs.length k]⟩, ⟨g4, 104, [.int .i64 Wd, .int .i64 Ht, .slice (some ad) xs.length k, .int .i64 n, .func (.func 82) #[] #[.pointer (some ⟨g24, 0, none⟩)]]⟩]) HE.out, HB.out⟩⟩
                                      case measure => simp [intOf]; omega
                                  · have HC0 := Hd.mk hc0
                                    clear hc0
                                    go_upto_region 16 with fail
                                    refine wp_region_vd 5 [48, 49, 50, 51, 52] [0, 1, 2, 4] [] 84 [.int .i64 0, .int .i64 0] [isV (.bool false), isV (.bool false), isV (.pointer (some ⟨g11, 2, none⟩)), isV (.bool true), isV (.bool true)] (by rfl) alloc_Z ?_ ?_
                                    · intro qi qh qA aa wx hb hs hd
                                      match qi, qh, qA with
                                      | 0, _, _ => exact .inl ⟨rfl, pure_b (bool_eq HC0.out) (op_mv rfl (hs 9 rfl))⟩
                                      | 1, _, _ => exact .inl ⟨rfl, op_mv rfl (hd 0 rfl)⟩
                                      | 2, _, _ => exact .inl ⟨⟨rfl, .inl (hd 1 rfl)⟩, ⟨_, op_faC2 rfl (hs 11 rfl), rfl⟩⟩
                                      | 3, _, _ => exact .inl ⟨⟨rfl, .inl (hd 1 rfl)⟩, wp_b (bool_eq (bP_true.2 ⟨HMP.out.2 HX2.out.1, HCP.out.2 HX2.out.2⟩)) (op_ldB rfl rfl (hd 2 rfl) ((HE.out.to hb).cell 3 2 rfl rfl))⟩
                                      | 4, _, _ => exact .inl ⟨rfl, ⟨_, op_pickF rfl (hd 1 rfl) (hd 3 rfl), rfl⟩⟩
                                      | qi + 5, h, _ => omega
                                    · intro vs X7 hb hv hal hne
                                      have HL0 := Hd.mk (HE.out.lt)
                                      have HBW := HB
                                      replace HB := Hd.mk (bel_then HB.out hb)
                                      replace HE : Hd (Env X7 [⟨w.heap.size, 27, [.int .i64 Wd, .int .i64 Ht, .slice (some ad) xs.length k]⟩, ⟨g24, 27, [.int .i64 Wd, .int .i64 Ht, .slice (some ad) xs.length k]⟩, ⟨g4, 104, [.int .i64 Wd, .int .i64 Ht, .slice (some ad) xs.length k, .int .i64 n, .func (.func 82) #[] #[.pointer (some ⟨g24, 0, none⟩)]]⟩, ⟨g11, 107, [.bool (bP (Ex (colF Wd Ht xs) true T)), .bool (bP (MirP n (colF Wd Ht xs) true T)), .bool (bP (MirP n (colF Wd Ht xs) true T ∧ CenP n (colF Wd Ht xs) true T))]⟩]) := ⟨HE.out.to hb⟩
                                      have HLS := HL0
                                      have e52 : vs 52 = .bool true := hv 4 (by decide) rfl
                                      simp only [putAll, List.foldl_cons, List.foldl_nil, Act.put, List.setIfInBounds_toArray, List.set_cons_succ, List.set_cons_zero, List.drop_succ_cons, List.drop_zero, e52]
                                      generalize vs 48 = s48
                                      generalize vs 49 = s49
                                      generalize vs 50 = s50
                                      generalize vs 51 = s51
                                      clear hv hal hne hb HL0 HBW HLS e52
                                      go_wp2_with fail
                                      go_roundw
                                      case rel => exact ⟨T + 1, by omega, by rw [cntN_yes (p := (Ex (colF Wd Ht xs) true)) HX0.out, HFL.out]; go_num, by rw [cntN_no (p := (Mir (colF Wd Ht xs))) HX1.out, HMI.out], by rw [cntN_yes (p := (fun k => Mir (colF Wd Ht xs) k ∧ Cen (colF Wd Ht xs) k)) HX2.out]; exact (congrArg Value.bool (decide_eq_true (Nat.succ_pos _))).symm, by go_num, ⟨Env.front (L := [⟨w.heap.size, 27, [.int .i64 Wd, .int .i64 Ht, .slice (some ad) xs.length k]⟩, ⟨g24, 27, [.int .i64 Wd, .int .i64 Ht, .slice (some ad) xs.length k]⟩, ⟨g4, 104, [.int .i64 Wd, .int .i64 Ht, .slice (some ad) xs.length k, .int .i64 n, .func (.func 82) #[] #[.pointer (some ⟨g24, 0, none⟩)]]⟩]) HE.out, HB.out⟩⟩
                                      case measure => simp [intOf]; omega
                                · have HX2 := Hd.mk hx2
                                  clear hx2
                                  rcases (show c = true ∨ c = false by cases c <;> simp) with hc0 | hc0
                                  · have HC0 := Hd.mk hc0
                                    clear hc0
                                    go_upto_region 16 with fail
                                    refine wp_region_vd 5 [48, 49, 50, 51, 52] [0, 1, 4] [] 84 [.int .i64 0, .int .i64 0] [isV (.bool true), isV (.bool true), isV undef, isV undef, isV (.bool true)] (by rfl) alloc_Z ?_ ?_
                                    · intro qi qh qA aa wx hb hs hd
                                      match qi, qh, qA with
                                      | 0, _, _ => exact .inl ⟨rfl, pure_b (bool_eq HC0.out) (op_mv rfl (hs 9 rfl))⟩
                                      | 1, _, _ => exact .inl ⟨rfl, op_mv rfl (hd 0 rfl)⟩
                                      | 2, _, _ => exact .inr ⟨⟨rfl, .inl (hd 1 rfl)⟩, rfl⟩
                                      | 3, _, _ => exact .inr ⟨⟨rfl, .inl (hd 1 rfl)⟩, rfl⟩
                                      | 4, _, _ => exact .inl ⟨rfl, ⟨_, op_pickT rfl (hd 1 rfl) rfl, rfl⟩⟩
                                      | qi + 5, h, _ => omega
                                    · intro vs X7 hb hv hal hne
                                      have HL0 := Hd.mk (HE.out.lt)
                                      have HBW := HB
                                      replace HB := Hd.mk (bel_then HB.out hb)
                                      replace HE : Hd (Env X7 [⟨w.heap.size, 27, [.int .i64 Wd, .int .i64 Ht, .slice (some ad) xs.length k]⟩, ⟨g24, 27, [.int .i64 Wd, .int .i64 Ht, .slice (some ad) xs.length k]⟩, ⟨g4, 104, [.int .i64 Wd, .int .i64 Ht, .slice (some ad) xs.length k, .int .i64 n, .func (.func 82) #[] #[.pointer (some ⟨g24, 0, none⟩)]]⟩, ⟨g11, 107, [.bool (bP (Ex (colF Wd Ht xs) true T)), .bool (bP (MirP n (colF Wd Ht xs) true T)), .bool (bP (MirP n (colF Wd Ht xs) true T ∧ CenP n (colF Wd Ht xs) true T))]⟩]) := ⟨HE.out.to hb⟩
                                      have HLS := HL0
                                      have e52 : vs 52 = .bool true := hv 4 (by decide) rfl
                                      simp only [putAll, List.foldl_cons, List.foldl_nil, Act.put, List.setIfInBounds_toArray, List.set_cons_succ, List.set_cons_zero, List.drop_succ_cons, List.drop_zero, e52]
                                      generalize vs 48 = s48
                                      generalize vs 49 = s49
                                      generalize vs 50 = s50
                                      generalize vs 51 = s51
                                      clear hv hal hne hb HL0 HBW HLS e52
                                      go_wp2_with fail
                                      go_roundw
                                      case rel => exact ⟨T + 1, by omega, by rw [cntN_yes (p := (Ex (colF Wd Ht xs) true)) HX0.out, HFL.out]; go_num, by rw [cntN_no (p := (Mir (colF Wd Ht xs))) HX1.out, HMI.out], by rw [cntN_no (p := (fun k => Mir (colF Wd Ht xs) k ∧ Cen (colF Wd Ht xs) k)) HX2.out, HCE.out, HCD.out, HC0.out], by go_num, ⟨Env.front (L := [⟨w.heap.size, 27, [.int .i64 Wd, .int .i64 Ht, .slice (some ad) xs.length k]⟩, ⟨g24, 27, [.int .i64 Wd, .int .i64 Ht, .slice (some ad) xs.length k]⟩, ⟨g4, 104, [.int .i64 Wd, .int .i64 Ht, .slice (some ad) xs.length k, .int .i64 n, .func (.func 82) #[] #[.pointer (some ⟨g24, 0, none⟩)]]⟩]) HE.out, HB.out⟩⟩
                                      case measure => simp [intOf]; omega
                                  · have HC0 := Hd.mk hc0
                                    clear hc0
                                    go_upto_region 16 with fail
                                    refine wp_region_vd 5 [48, 49, 50, 51, 52] [0, 1, 2, 4] [] 84 [.int .i64 0, .int .i64 0] [isV (.bool false), isV (.bool false), isV (.pointer (some ⟨g11, 2, none⟩)), isV (.bool false), isV (.bool false)] (by rfl) alloc_Z ?_ ?_
                                    · intro qi qh qA aa wx hb hs hd
                                      match qi, qh, qA with
                                      | 0, _, _ => exact .inl ⟨rfl, pure_b (bool_eq HC0.out) (op_mv rfl (hs 9 rfl))⟩
                                      | 1, _, _ => exact .inl ⟨rfl, op_mv rfl (hd 0 rfl)⟩
                                      | 2, _, _ => exact .inl ⟨⟨rfl, .inl (hd 1 rfl)⟩, ⟨_, op_faC2 rfl (hs 11 rfl), rfl⟩⟩
                                      | 3, _, _ => exact .inl ⟨⟨rfl, .inl (hd 1 rfl)⟩, wp_b (bool_eq (bP_false.2 (fun h7 => HX2.out ⟨HMP.out.1 h7.1, HCP.out.1 h7.2⟩))) (op_ldB rfl rfl (hd 2 rfl) ((HE.out.to hb).cell 3 2 rfl rfl))⟩
                                      | 4, _, _ => exact .inl ⟨rfl, ⟨_, op_pickF rfl (hd 1 rfl) (hd 3 rfl), rfl⟩⟩
                                      | qi + 5, h, _ => omega
                                    · intro vs X7 hb hv hal hne
                                      have HL0 := Hd.mk (HE.out.lt)
                                      have HBW := HB
                                      replace HB := Hd.mk (bel_then HB.out hb)
                                      replace HE : Hd (Env X7 [⟨w.heap.size, 27, [.int .i64 Wd, .int .i64 Ht, .slice (some ad) xs.length k]⟩, ⟨g24, 27, [.int .i64 Wd, .int .i64 Ht, .slice (some ad) xs.length k]⟩, ⟨g4, 104, [.int .i64 Wd, .int .i64 Ht, .slice (some ad) xs.length k, .int .i64 n, .func (.func 82) #[] #[.pointer (some ⟨g24, 0, none⟩)]]⟩, ⟨g11, 107, [.bool (bP (Ex (colF Wd Ht xs) true T)), .bool (bP (MirP n (colF Wd Ht xs) true T)), .bool (bP (MirP n (colF Wd Ht xs) true T ∧ CenP n (colF Wd Ht xs) true T))]⟩]) := ⟨HE.out.to hb⟩
                                      have HLS := HL0
                                      have e52 : vs 52 = .bool false := hv 4 (by decide) rfl
                                      simp only [putAll, List.foldl_cons, List.foldl_nil, Act.put, List.setIfInBounds_toArray, List.set_cons_succ, List.set_cons_zero, List.drop_succ_cons, List.drop_zero, e52]
                                      generalize vs 48 = s48
                                      generalize vs 49 = s49
                                      generalize vs 50 = s50
                                      generalize vs 51 = s51
                                      clear hv hal hne hb HL0 HBW HLS e52
                                      go_wp2_with fail
                                      go_roundw
                                      case rel => exact ⟨T + 1, by omega, by rw [cntN_yes (p := (Ex (colF Wd Ht xs) true)) HX0.out, HFL.out]; go_num, by rw [cntN_no (p := (Mir (colF Wd Ht xs))) HX1.out, HMI.out], by rw [cntN_no (p := (fun k => Mir (colF Wd Ht xs) k ∧ Cen (colF Wd Ht xs) k)) HX2.out, HCE.out, HCD.out, HC0.out], by go_num, ⟨Env.front (L := [⟨w.heap.size, 27, [.int .i64 Wd, .int .i64 Ht, .slice (some ad) xs.length k]⟩, ⟨g24, 27, [.int .i64 Wd, .int .i64 Ht, .slice (some ad) xs.length k]⟩, ⟨g4, 104, [.int .i64 Wd, .int .i64 Ht, .slice (some ad) xs.length k, .int .i64 n, .func (.func 82) #[] #[.pointer (some ⟨g24, 0, none⟩)]]⟩]) HE.out, HB.out⟩⟩
                                      case measure => simp [intOf]; omega
                      · have HX0 := Hd.mk hx0
                        clear hx0
                        go_upto_region 12 with fail
                        refine wp_region_vd 2 [40, 41] [0] [] 84 [.int .i64 0, .int .i64 0] [isV (.pointer (some ⟨g11, 0, none⟩)), isV (.bool false)] (by rfl) alloc_Z ?_ ?_
                        · intro qi qh qA aa wx hb hs hd
                          match qi, qh, qA with
                          | 0, _, _ => exact .inl ⟨rfl, ⟨_, op_faC0 rfl (hs 11 rfl), rfl⟩⟩
                          | 1, _, _ => exact .inl ⟨rfl, wp_b (bool_eq (bP_false.2 HX0.out)) (op_ldB rfl rfl (hd 0 rfl) ((HE.out.to hb).cell 3 0 rfl rfl))⟩
                          | qi + 2, h, _ => omega
                        · intro vs X4 hb hv hal hne
                          have HL0 := Hd.mk (HE.out.lt)
                          have HBW := HB
                          replace HB := Hd.mk (bel_then HB.out hb)
                          replace HE : Hd (Env X4 [⟨w.heap.size, 27, [.int .i64 Wd, .int .i64 Ht, .slice (some ad) xs.length k]⟩, ⟨g24, 27, [.int .i64 Wd, .int .i64 Ht, .slice (some ad) xs.length k]⟩, ⟨g4, 104, [.int .i64 Wd, .int .i64 Ht, .slice (some ad) xs.length k, .int .i64 n, .func (.func 82) #[] #[.pointer (some ⟨g24, 0, none⟩)]]⟩, ⟨g11, 107, [.bool (bP (Ex (colF Wd Ht xs) true T)), .bool (bP (MirP n (colF Wd Ht xs) true T)), .bool (bP (MirP n (colF Wd Ht xs) true T ∧ CenP n (colF Wd Ht xs) true T))]⟩]) := ⟨HE.out.to hb⟩
                          have HLS := HL0
                          have e41 : vs 41 = .bool false := hv 1 (by decide) rfl
                          simp only [putAll, List.foldl_cons, List.foldl_nil, Act.put, List.setIfInBounds_toArray, List.set_cons_succ, List.set_cons_zero, List.drop_succ_cons, List.drop_zero, e41]
                          generalize vs 40 = s40
                          clear hv hal hne hb HL0 HBW HLS e41
                          by_cases hx1 : Mir (colF Wd Ht xs) T
                          · have HX1 := Hd.mk hx1
                            clear hx1
                            go_upto_region 14 with fail
                            refine wp_region_vd 2 [44, 45] [0] [] 84 [.int .i64 0, .int .i64 0] [isV (.pointer (some ⟨g11, 1, none⟩)), isV (.bool true)] (by rfl) alloc_Z ?_ ?_
                            · intro qi qh qA aa wx hb hs hd
                              match qi, qh, qA with
                              | 0, _, _ => exact .inl ⟨rfl, ⟨_, op_faC1 rfl (hs 11 rfl), rfl⟩⟩
                              | 1, _, _ => exact .inl ⟨rfl, wp_b (bool_eq (bP_true.2 (HMP.out.2 HX1.out))) (op_ldB rfl rfl (hd 0 rfl) ((HE.out.to hb).cell 3 1 rfl rfl))⟩
                              | qi + 2, h, _ => omega
                            · intro vs X5 hb hv hal hne
                              have HL0 := Hd.mk (HE.out.lt)
                              have HBW := HB
                              replace HB := Hd.mk (bel_then HB.out hb)
                              replace HE : Hd (Env X5 [⟨w.heap.size, 27, [.int .i64 Wd, .int .i64 Ht, .slice (some ad) xs.length k]⟩, ⟨g24, 27, [.int .i64 Wd, .int .i64 Ht, .slice (some ad) xs.length k]⟩, ⟨g4, 104, [.int .i64 Wd, .int .i64 Ht, .slice (some ad) xs.length k, .int .i64 n, .func (.func 82) #[] #[.pointer (some ⟨g24, 0, none⟩)]]⟩, ⟨g11, 107, [.bool (bP (Ex (colF Wd Ht xs) true T)), .bool (bP (MirP n (colF Wd Ht xs) true T)), .bool (bP (MirP n (colF Wd Ht xs) true T ∧ CenP n (colF Wd Ht xs) true T))]⟩]) := ⟨HE.out.to hb⟩
                              have HLS := HL0
                              have e45 : vs 45 = .bool true := hv 1 (by decide) rfl
                              simp only [putAll, List.foldl_cons, List.foldl_nil, Act.put, List.setIfInBounds_toArray, List.set_cons_succ, List.set_cons_zero, List.drop_succ_cons, List.drop_zero, e45]
                              generalize vs 44 = s44
                              clear hv hal hne hb HL0 HBW HLS e45
                              go_upto_region 15 with fail
                              refine wp_region_vd 2 [46, 47] [0, 1] [] 84 [.int .i64 0, .int .i64 0] [isV (.int .i64 (((mi : Nat) : Int))), isV (.int .i64 ((((mi : Nat) : Int)) + 1))] (by rfl) alloc_Z ?_ ?_
                              · intro qi qh qA aa wx hb hs hd
                                match qi, qh, qA with
                                | 0, _, _ => exact .inl ⟨rfl, op_mv rfl (hs 8 rfl)⟩
                                | 1, _, _ => exact .inl ⟨rfl, ⟨_, op_add (by unfold Fit; omega) rfl (hd 0 rfl) rfl, rfl⟩⟩
                                | qi + 2, h, _ => omega
                              · intro vs X6 hb hv hal hne
                                have HL0 := Hd.mk (HE.out.lt)
                                have HBW := HB
                                replace HB := Hd.mk (bel_then HB.out hb)
                                replace HE : Hd (Env X6 [⟨w.heap.size, 27, [.int .i64 Wd, .int .i64 Ht, .slice (some ad) xs.length k]⟩, ⟨g24, 27, [.int .i64 Wd, .int .i64 Ht, .slice (some ad) xs.length k]⟩, ⟨g4, 104, [.int .i64 Wd, .int .i64 Ht, .slice (some ad) xs.length k, .int .i64 n, .func (.func 82) #[] #[.pointer (some ⟨g24, 0, none⟩)]]⟩, ⟨g11, 107, [.bool (bP (Ex (colF Wd Ht xs) true T)), .bool (bP (MirP n (colF Wd Ht xs) true T)), .bool (bP (MirP n (colF Wd Ht xs) true T ∧ CenP n (colF Wd Ht xs) true T))]⟩]) := ⟨HE.out.to hb⟩
                                have HLS := HL0
                                have e47 : vs 47 = .int .i64 ((((mi : Nat) : Int)) + 1) := hv 1 (by decide) rfl
                                simp only [putAll, List.foldl_cons, List.foldl_nil, Act.put, List.setIfInBounds_toArray, List.set_cons_succ, List.set_cons_zero, List.drop_succ_cons, List.drop_zero, e47]
                                generalize vs 46 = s46
                                clear hv hal hne hb HL0 HBW HLS e47
                                by_cases hx2 : Mir (colF Wd Ht xs) T ∧ Cen (colF Wd Ht xs) T
                                · have HX2 := Hd.mk hx2
                                  clear hx2
                                  rcases (show c = true ∨ c = false by cases c <;> simp) with hc0 | hc0
                                  · have HC0 := Hd.mk hc0
                                    clear hc0
                                    go_upto_region 16 with fail
                                    refine wp_region_vd 5 [48, 49, 50, 51, 52] [0, 1, 4] [] 84 [.int .i64 0, .int .i64 0] [isV (.bool true), isV (.bool true), isV undef, isV undef, isV (.bool true)] (by rfl) alloc_Z ?_ ?_
                                    · intro qi qh qA aa wx hb hs hd
                                      match qi, qh, qA with
                                      | 0, _, _ => exact .inl ⟨rfl, pure_b (bool_eq HC0.out) (op_mv rfl (hs 9 rfl))⟩
                                      | 1, _, _ => exact .inl ⟨rfl, op_mv rfl (hd 0 rfl)⟩
                                      | 2, _, _ => exact .inr ⟨⟨rfl, .inl (hd 1 rfl)⟩, rfl⟩
                                      | 3, _, _ => exact .inr ⟨⟨rfl, .inl (hd 1 rfl)⟩, rfl⟩
                                      | 4, _, _ => exact .inl ⟨rfl, ⟨_, op_pickT rfl (hd 1 rfl) rfl, rfl⟩⟩
                                      | qi + 5, h, _ => omega
                                    · intro vs X7 hb hv hal hne
                                      have HL0 := Hd.mk (HE.out.lt)
                                      have HBW := HB
                                      replace HB := Hd.mk (bel_then HB.out hb)
                                      replace HE : Hd (Env X7 [⟨w.heap.size, 27, [.int .i64 Wd, .int .i64 Ht, .slice (some ad) xs.length k]⟩, ⟨g24, 27, [.int .i64 Wd, .int .i64 Ht, .slice (some ad) xs.length k]⟩, ⟨g4, 104, [.int .i64 Wd, .int .i64 Ht, .slice (some ad) xs.length k, .int .i64 n, .func (.func 82) #[] #[.pointer (some ⟨g24, 0, none⟩)]]⟩, ⟨g11, 107, [.bool (bP (Ex (colF Wd Ht xs) true T)), .bool (bP (MirP n (colF Wd Ht xs) true T)), .bool (bP (MirP n (colF Wd Ht xs) true T ∧ CenP n (colF Wd Ht xs) true T))]⟩]) := ⟨HE.out.to hb⟩
                                      have HLS := HL0
                                      have e52 : vs 52 = .bool true := hv 4 (by decide) rfl
                                      simp only [putAll, List.foldl_cons, List.foldl_nil, Act.put, List.setIfInBounds_toArray, List.set_cons_succ, List.set_cons_zero, List.drop_succ_cons, List.drop_zero, e52]
                                      generalize vs 48 = s48
                                      generalize vs 49 = s49
                                      generalize vs 50 = s50
                                      generalize vs 51 = s51
                                      clear hv hal hne hb HL0 HBW HLS e52
                                      go_wp2_with fail
                                      go_roundw
                                      case rel => exact ⟨T + 1, by omega, by rw [cntN_no (p := (Ex (colF Wd Ht xs) true)) HX0.out, HFL.out], by rw [cntN_yes (p := (Mir (colF Wd Ht xs))) HX1.out, HMI.out]; go_num, by rw [cntN_yes (p := (fun k => Mir (colF Wd Ht xs) k ∧ Cen (colF Wd Ht xs) k)) HX2.out]; exact (congrArg Value.bool (decide_eq_true (Nat.succ_pos _))).symm, by go_num, ⟨Env.front (L := [⟨w.heap.size, 27, [.int .i64 Wd, .int .i64 Ht, .slice (some ad) xs.length k]⟩, ⟨g24, 27, [.int .i64 Wd, .int .i64 Ht, .slice (some ad) xs.length k]⟩, ⟨g4, 104, [.int .i64 Wd, .int .i64 Ht, .slice (some ad) xs.length k, .int .i64 n, .func (.func 82) #[] #[.pointer (some ⟨g24, 0, none⟩)]]⟩]) HE.out, HB.out⟩⟩
                                      case measure => simp [intOf]; omega
                                  · have HC0 := Hd.mk hc0
                                    clear hc0
                                    go_upto_region 16 with fail
                                    refine wp_region_vd 5 [48, 49, 50, 51, 52] [0, 1, 2, 4] [] 84 [.int .i64 0, .int .i64 0] [isV (.bool false), isV (.bool false), isV (.pointer (some ⟨g11, 2, none⟩)), isV (.bool true), isV (.bool true)] (by rfl) alloc_Z ?_ ?_
                                    · intro qi qh qA aa wx hb hs hd
                                      match qi, qh, qA with
                                      | 0, _, _ => exact .inl ⟨rfl, pure_b (bool_eq HC0.out) (op_mv rfl (hs 9 rfl))⟩
                                      | 1, _, _ => exact .inl ⟨rfl, op_mv rfl (hd 0 rfl)⟩
                                      | 2, _, _ => exact .inl ⟨⟨rfl, .inl (hd 1 rfl)⟩, ⟨_, op_faC2 rfl (hs 11 rfl), rfl⟩⟩
                                      | 3, _, _ => exact .inl ⟨⟨rfl, .inl (hd 1 rfl)⟩, wp_b (bool_eq (bP_true.2 ⟨HMP.out.2 HX2.out.1, HCP.out.2 HX2.out.2⟩)) (op_ldB rfl rfl (hd 2 rfl) ((HE.out.to hb).cell 3 2 rfl rfl))⟩
                                      | 4, _, _ => exact .inl ⟨rfl, ⟨_, op_pickF rfl (hd 1 rfl) (hd 3 rfl), rfl⟩⟩
                                      | qi + 5, h, _ => omega
                                    · intro vs X7 hb hv hal hne
                                      have HL0 := Hd.mk (HE.out.lt)
                                      have HBW := HB
                                      replace HB := Hd.mk (bel_then HB.out hb)
                                      replace HE : Hd (Env X7 [⟨w.heap.size, 27, [.int .i64 Wd, .int .i64 Ht, .slice (some ad) xs.length k]⟩, ⟨g24, 27, [.int .i64 Wd, .int .i64 Ht, .slice (some ad) xs.length k]⟩, ⟨g4, 104, [.int .i64 Wd, .int .i64 Ht, .slice (some ad) xs.length k, .int .i64 n, .func (.func 82) #[] #[.pointer (some ⟨g24, 0, none⟩)]]⟩, ⟨g11, 107, [.bool (bP (Ex (colF Wd Ht xs) true T)), .bool (bP (MirP n (colF Wd Ht xs) true T)), .bool (bP (MirP n (colF Wd Ht xs) true T ∧ CenP n (colF Wd Ht xs) true T))]⟩]) := ⟨HE.out.to hb⟩
                                      have HLS := HL0
                                      have e52 : vs 52 = .bool true := hv 4 (by decide) rfl
                                      simp only [putAll, List.foldl_cons, List.foldl_nil, Act.put, List.setIfInBounds_toArray, List.set_cons_succ, List.set_cons_zero, List.drop_succ_cons, List.drop_zero, e52]
                                      generalize vs 48 = s48
                                      generalize vs 49 = s49
                                      generalize vs 50 = s50
                                      generalize vs 51 = s51
                                      clear hv hal hne hb HL0 HBW HLS e52
                                      go_wp2_with fail
                                      go_roundw
                                      case rel => exact ⟨T + 1, by omega, by rw [cntN_no (p := (Ex (colF Wd Ht xs) true)) HX0.out, HFL.out], by rw [cntN_yes (p := (Mir (colF Wd Ht xs))) HX1.out, HMI.out]; go_num, by rw [cntN_yes (p := (fun k => Mir (colF Wd Ht xs) k ∧ Cen (colF Wd Ht xs) k)) HX2.out]; exact (congrArg Value.bool (decide_eq_true (Nat.succ_pos _))).symm, by go_num, ⟨Env.front (L := [⟨w.heap.size, 27, [.int .i64 Wd, .int .i64 Ht, .slice (some ad) xs.length k]⟩, ⟨g24, 27, [.int .i64 Wd, .int .i64 Ht, .slice (some ad) xs.length k]⟩, ⟨g4, 104, [.int .i64 Wd, .int .i64 Ht, .slice (some ad) xs.length k, .int .i64 n, .func (.func 82) #[] #[.pointer (some ⟨g24, 0, none⟩)]]⟩]) HE.out, HB.out⟩⟩
                                      case measure => simp [intOf]; omega
                                · have HX2 := Hd.mk hx2
                                  clear hx2
                                  rcases (show c = true ∨ c = false by cases c <;> simp) with hc0 | hc0
                                  · have HC0 := Hd.mk hc0
                                    clear hc0
                                    go_upto_region 16 with fail
                                    refine wp_region_vd 5 [48, 49, 50, 51, 52] [0, 1, 4] [] 84 [.int .i64 0, .int .i64 0] [isV (.bool true), isV (.bool true), isV undef, isV undef, isV (.bool true)] (by rfl) alloc_Z ?_ ?_
                                    · intro qi qh qA aa wx hb hs hd
                                      match qi, qh, qA with
                                      | 0, _, _ => exact .inl ⟨rfl, pure_b (bool_eq HC0.out) (op_mv rfl (hs 9 rfl))⟩
                                      | 1, _, _ => exact .inl ⟨rfl, op_mv rfl (hd 0 rfl)⟩
                                      | 2, _, _ => exact .inr ⟨⟨rfl, .inl (hd 1 rfl)⟩, rfl⟩
                                      | 3, _, _ => exact .inr ⟨⟨rfl, .inl (hd 1 rfl)⟩, rfl⟩
                                      | 4, _, _ => exact .inl ⟨rfl, ⟨_, op_pickT rfl (hd 1 rfl) rfl, rfl⟩⟩
                                      | qi + 5, h, _ => omega
                                    · intro vs X7 hb hv hal hne
                                      have HL0 := Hd.mk (HE.out.lt)
                                      have HBW := HB
                                      replace HB := Hd.mk (bel_then HB.out hb)
                                      replace HE : Hd (Env X7 [⟨w.heap.size, 27, [.int .i64 Wd, .int .i64 Ht, .slice (some ad) xs.length k]⟩, ⟨g24, 27, [.int .i64 Wd, .int .i64 Ht, .slice (some ad) xs.length k]⟩, ⟨g4, 104, [.int .i64 Wd, .int .i64 Ht, .slice (some ad) xs.length k, .int .i64 n, .func (.func 82) #[] #[.pointer (some ⟨g24, 0, none⟩)]]⟩, ⟨g11, 107, [.bool (bP (Ex (colF Wd Ht xs) true T)), .bool (bP (MirP n (colF Wd Ht xs) true T)), .bool (bP (MirP n (colF Wd Ht xs) true T ∧ CenP n (colF Wd Ht xs) true T))]⟩]) := ⟨HE.out.to hb⟩
                                      have HLS := HL0
                                      have e52 : vs 52 = .bool true := hv 4 (by decide) rfl
                                      simp only [putAll, List.foldl_cons, List.foldl_nil, Act.put, List.setIfInBounds_toArray, List.set_cons_succ, List.set_cons_zero, List.drop_succ_cons, List.drop_zero, e52]
                                      generalize vs 48 = s48
                                      generalize vs 49 = s49
                                      generalize vs 50 = s50
                                      generalize vs 51 = s51
                                      clear hv hal hne hb HL0 HBW HLS e52
                                      go_wp2_with fail
                                      go_roundw
                                      case rel => exact ⟨T + 1, by omega, by rw [cntN_no (p := (Ex (colF Wd Ht xs) true)) HX0.out, HFL.out], by rw [cntN_yes (p := (Mir (colF Wd Ht xs))) HX1.out, HMI.out]; go_num, by rw [cntN_no (p := (fun k => Mir (colF Wd Ht xs) k ∧ Cen (colF Wd Ht xs) k)) HX2.out, HCE.out, HCD.out, HC0.out], by go_num, ⟨Env.front (L := [⟨w.heap.size, 27, [.int .i64 Wd, .int .i64 Ht, .slice (some ad) xs.length k]⟩, ⟨g24, 27, [.int .i64 Wd, .int .i64 Ht, .slice (some ad) xs.length k]⟩, ⟨g4, 104, [.int .i64 Wd, .int .i64 Ht, .slice (some ad) xs.length k, .int .i64 n, .func (.func 82) #[] #[.pointer (some ⟨g24, 0, none⟩)]]⟩]) HE.out, HB.out⟩⟩
                                      case measure => simp [intOf]; omega
                                  · have HC0 := Hd.mk hc0
                                    clear hc0
                                    go_upto_region 16 with fail
                                    refine wp_region_vd 5 [48, 49, 50, 51, 52] [0, 1, 2, 4] [] 84 [.int .i64 0, .int .i64 0] [isV (.bool false), isV (.bool false), isV (.pointer (some ⟨g11, 2, none⟩)), isV (.bool false), isV (.bool false)] (by rfl) alloc_Z ?_ ?_
                                    · intro qi qh qA aa wx hb hs hd
                                      match qi, qh, qA with
                                      | 0, _, _ => exact .inl ⟨rfl, pure_b (bool_eq HC0.out) (op_mv rfl (hs 9 rfl))⟩
                                      | 1, _, _ => exact .inl ⟨rfl, op_mv rfl (hd 0 rfl)⟩
                                      | 2, _, _ => exact .inl ⟨⟨rfl, .inl (hd 1 rfl)⟩, ⟨_, op_faC2 rfl (hs 11 rfl), rfl⟩⟩
                                      | 3, _, _ => exact .inl ⟨⟨rfl, .inl (hd 1 rfl)⟩, wp_b (bool_eq (bP_false.2 (fun h7 => HX2.out ⟨HMP.out.1 h7.1, HCP.out.1 h7.2⟩))) (op_ldB rfl rfl (hd 2 rfl) ((HE.out.to hb).cell 3 2 rfl rfl))⟩
                                      | 4, _, _ => exact .inl ⟨rfl, ⟨_, op_pickF rfl (hd 1 rfl) (hd 3 rfl), rfl⟩⟩
                                      | qi + 5, h, _ => omega
                                    · intro vs X7 hb hv hal hne
                                      have HL0 := Hd.mk (HE.out.lt)
                                      have HBW := HB
                                      replace HB := Hd.mk (bel_then HB.out hb)
                                      replace HE : Hd (Env X7 [⟨w.heap.size, 27, [.int .i64 Wd, .int .i64 Ht, .slice (some ad) xs.length k]⟩, ⟨g24, 27, [.int .i64 Wd, .int .i64 Ht, .slice (some ad) xs.length k]⟩, ⟨g4, 104, [.int .i64 Wd, .int .i64 Ht, .slice (some ad) xs.length k, .int .i64 n, .func (.func 82) #[] #[.pointer (some ⟨g24, 0, none⟩)]]⟩, ⟨g11, 107, [.bool (bP (Ex (colF Wd Ht xs) true T)), .bool (bP (MirP n (colF Wd Ht xs) true T)), .bool (bP (MirP n (colF Wd Ht xs) true T ∧ CenP n (colF Wd Ht xs) true T))]⟩]) := ⟨HE.out.to hb⟩
                                      have HLS := HL0
                                      have e52 : vs 52 = .bool false := hv 4 (by decide) rfl
                                      simp only [putAll, List.foldl_cons, List.foldl_nil, Act.put, List.setIfInBounds_toArray, List.set_cons_succ, List.set_cons_zero, List.drop_succ_cons, List.drop_zero, e52]
                                      generalize vs 48 = s48
                                      generalize vs 49 = s49
                                      generalize vs 50 = s50
                                      generalize vs 51 = s51
                                      clear hv hal hne hb HL0 HBW HLS e52
                                      go_wp2_with fail
                                      go_roundw
                                      case rel => exact ⟨T + 1, by omega, by rw [cntN_no (p := (Ex (colF Wd Ht xs) true)) HX0.out, HFL.out], by rw [cntN_yes (p := (Mir (colF Wd Ht xs))) HX1.out, HMI.out]; go_num, by rw [cntN_no (p := (fun k => Mir (colF Wd Ht xs) k ∧ Cen (colF Wd Ht xs) k)) HX2.out, HCE.out, HCD.out, HC0.out], by go_num, ⟨Env.front (L := [⟨w.heap.size, 27, [.int .i64 Wd, .int .i64 Ht, .slice (some ad) xs.length k]⟩, ⟨g24, 27, [.int .i64 Wd, .int .i64 Ht, .slice (some ad) xs.length k]⟩, ⟨g4, 104, [.int .i64 Wd, .int .i64 Ht, .slice (some ad) xs.length k, .int .i64 n, .func (.func 82) #[] #[.pointer (some ⟨g24, 0, none⟩)]]⟩]) HE.out, HB.out⟩⟩
                                      case measure => simp [intOf]; omega
                          · have HX1 := Hd.mk hx1
                            clear hx1
                            go_upto_region 14 with fail
                            refine wp_region_vd 2 [44, 45] [0] [] 84 [.int .i64 0, .int .i64 0] [isV (.pointer (some ⟨g11, 1, none⟩)), isV (.bool false)] (by rfl) alloc_Z ?_ ?_
                            · intro qi qh qA aa wx hb hs hd
                              match qi, qh, qA with
                              | 0, _, _ => exact .inl ⟨rfl, ⟨_, op_faC1 rfl (hs 11 rfl), rfl⟩⟩
                              | 1, _, _ => exact .inl ⟨rfl, wp_b (bool_eq (bP_false.2 (fun h7 => HX1.out (HMP.out.1 h7)))) (op_ldB rfl rfl (hd 0 rfl) ((HE.out.to hb).cell 3 1 rfl rfl))⟩
                              | qi + 2, h, _ => omega
                            · intro vs X5 hb hv hal hne
                              have HL0 := Hd.mk (HE.out.lt)
                              have HBW := HB
                              replace HB := Hd.mk (bel_then HB.out hb)
                              replace HE : Hd (Env X5 [⟨w.heap.size, 27, [.int .i64 Wd, .int .i64 Ht, .slice (some ad) xs.length k]⟩, ⟨g24, 27, [.int .i64 Wd, .int .i64 Ht, .slice (some ad) xs.length k]⟩, ⟨g4, 104, [.int .i64 Wd, .int .i64 Ht, .slice (some ad) xs.length k, .int .i64 n, .func (.func 82) #[] #[.pointer (some ⟨g24, 0, none⟩)]]⟩, ⟨g11, 107, [.bool (bP (Ex (colF Wd Ht xs) true T)), .bool (bP (MirP n (colF Wd Ht xs) true T)), .bool (bP (MirP n (colF Wd Ht xs) true T ∧ CenP n (colF Wd Ht xs) true T))]⟩]) := ⟨HE.out.to hb⟩
                              have HLS := HL0
                              have e45 : vs 45 = .bool false := hv 1 (by decide) rfl
                              simp only [putAll, List.foldl_cons, List.foldl_nil, Act.put, List.setIfInBounds_toArray, List.set_cons_succ, List.set_cons_zero, List.drop_succ_cons, List.drop_zero, e45]
                              generalize vs 44 = s44
                              clear hv hal hne hb HL0 HBW HLS e45
                              by_cases hx2 : Mir (colF Wd Ht xs) T ∧ Cen (colF Wd Ht xs) T
                              · have HX2 := Hd.mk hx2
                                clear hx2
                                rcases (show c = true ∨ c = false by cases c <;> simp) with hc0 | hc0
                                · have HC0 := Hd.mk hc0
                                  clear hc0
                                  go_upto_region 16 with fail
                                  refine wp_region_vd 5 [48, 49, 50, 51, 52] [0, 1, 4] [] 84 [.int .i64 0, .int .i64 0] [isV (.bool true), isV (.bool true), isV undef, isV undef, isV (.bool true)] (by rfl) alloc_Z ?_ ?_
                                  · intro qi qh qA aa wx hb hs hd
                                    match qi, qh, qA with
                                    | 0, _, _ => exact .inl ⟨rfl, pure_b (bool_eq HC0.out) (op_mv rfl (hs 9 rfl))⟩
                                    | 1, _, _ => exact .inl ⟨rfl, op_mv rfl (hd 0 rfl)⟩
                                    | 2, _, _ => exact .inr ⟨⟨rfl, .inl (hd 1 rfl)⟩, rfl⟩
                                    | 3, _, _ => exact .inr ⟨⟨rfl, .inl (hd 1 rfl)⟩, rfl⟩
                                    | 4, _, _ => exact .inl ⟨rfl, ⟨_, op_pickT rfl (hd 1 rfl) rfl, rfl⟩⟩
                                    | qi + 5, h, _ => omega
                                  · intro vs X6 hb hv hal hne
                                    have HL0 := Hd.mk (HE.out.lt)
                                    have HBW := HB
                                    replace HB := Hd.mk (bel_then HB.out hb)
                                    replace HE : Hd (Env X6 [⟨w.heap.size, 27, [.int .i64 Wd, .int .i64 Ht, .slice (some ad) xs.length k]⟩, ⟨g24, 27, [.int .i64 Wd, .int .i64 Ht, .slice (some ad) xs.length k]⟩, ⟨g4, 104, [.int .i64 Wd, .int .i64 Ht, .slice (some ad) xs.length k, .int .i64 n, .func (.func 82) #[] #[.pointer (some ⟨g24, 0, none⟩)]]⟩, ⟨g11, 107, [.bool (bP (Ex (colF Wd Ht xs) true T)), .bool (bP (MirP n (colF Wd Ht xs) true T)), .bool (bP (MirP n (colF Wd Ht xs) true T ∧ CenP n (colF Wd Ht xs) true T))]⟩]) := ⟨HE.out.to hb⟩
                                    have HLS := HL0
                                    have e52 : vs 52 = .bool true := hv 4 (by decide) rfl
                                    simp only [putAll, List.foldl_cons, List.foldl_nil, Act.put, List.setIfInBounds_toArray, List.set_cons_succ, List.set_cons_zero, List.drop_succ_cons, List.drop_zero, e52]
                                    generalize vs 48 = s48
                                    generalize vs 49 = s49
                                    generalize vs 50 = s50
                                    generalize vs 51 = s51
                                    clear hv hal hne hb HL0 HBW HLS e52
                                    go_wp2_with fail
                                    go_roundw
                                    case rel => exact ⟨T + 1, by omega, by rw [cntN_no (p := (Ex (colF Wd Ht xs) true)) HX0.out, HFL.out], by rw [cntN_no (p := (Mir (colF Wd Ht xs))) HX1.out, HMI.out], by rw [cntN_yes (p := (fun k => Mir (colF Wd Ht xs) k ∧ Cen (colF Wd Ht xs) k)) HX2.out]; exact (congrArg Value.bool (decide_eq_true (Nat.succ_pos _))).symm, by go_num, ⟨Env.front (L := [⟨w.heap.size, 27, [.int .i64 Wd, .int .i64 Ht, .slice (some ad) xs.length k]⟩, ⟨g24, 27, [.int .i64 Wd, .int .i64 Ht, .slice (some ad) xs.length k]⟩, ⟨g4, 104, [.int .i64 Wd, .int .i64 Ht, .slice (some ad) xs.length k, .int .i64 n, .func (.func 82) #[] #[.pointer (some ⟨g24, 0, none⟩)]]⟩]) HE.out, HB.out⟩⟩
                                    case measure => simp [intOf]; omega
                                · have HC0 := Hd.mk hc0
                                  clear hc0
                                  go_upto_region 16 with fail
                                  refine wp_region_vd 5 [48, 49, 50, 51, 52] [0, 1, 2, 4] [] 84 [.int .i64 0, .int .i64 0] [isV (.bool false), isV (.bool false), isV (.pointer (some ⟨g11, 2, none⟩)), isV (.bool true), isV (.bool true)] (by rfl) alloc_Z ?_ ?_
                                  · intro qi qh qA aa wx hb hs hd
                                    match qi, qh, qA with
                                    | 0, _, _ => exact .inl ⟨rfl, pure_b (bool_eq HC0.out) (op_mv rfl (hs 9 rfl))⟩
                                    | 1, _, _ => exact .inl ⟨rfl, op_mv rfl (hd 0 rfl)⟩
                                    | 2, _, _ => exact .inl ⟨⟨rfl, .inl (hd 1 rfl)⟩, ⟨_, op_faC2 rfl (hs 11 rfl), rfl⟩⟩
                                    | 3, _, _ => exact .inl ⟨⟨rfl, .inl (hd 1 rfl)⟩, wp_b (bool_eq (bP_true.2 ⟨HMP.out.2 HX2.out.1, HCP.out.2 HX2.out.2⟩)) (op_ldB rfl rfl (hd 2 rfl) ((HE.out.to hb).cell 3 2 rfl rfl))⟩
                                    | 4, _, _ => exact .inl ⟨rfl, ⟨_, op_pickF rfl (hd 1 rfl) (hd 3 rfl), rfl⟩⟩
                                    | qi + 5, h, _ => omega
                                  · intro vs X6 hb hv hal hne
                                    have HL0 := Hd.mk (HE.out.lt)
                                    have HBW := HB
                                    replace HB := Hd.mk (bel_then HB.out hb)
                                    replace HE : Hd (Env X6 [⟨w.heap.size, 27, [.int .i64 Wd, .int .i64 Ht, .slice (some ad) xs.length k]⟩, ⟨g24, 27, [.int .i64 Wd, .int .i64 Ht, .slice (some ad) xs.length k]⟩, ⟨g4, 104, [.int .i64 Wd, .int .i64 Ht, .slice (some ad) xs.length k, .int .i64 n, .func (.func 82) #[] #[.pointer (some ⟨g24, 0, none⟩)]]⟩, ⟨g11, 107, [.bool (bP (Ex (colF Wd Ht xs) true T)), .bool (bP (MirP n (colF Wd Ht xs) true T)), .bool (bP (MirP n (colF Wd Ht xs) true T ∧ CenP n (colF Wd Ht xs) true T))]⟩]) := ⟨HE.out.to hb⟩
                                    have HLS := HL0
                                    have e52 : vs 52 = .bool true := hv 4 (by decide) rfl
                                    simp only [putAll, List.foldl_cons, List.foldl_nil, Act.put, List.setIfInBounds_toArray, List.set_cons_succ, List.set_cons_zero, List.drop_succ_cons, List.drop_zero, e52]
                                    generalize vs 48 = s48
                                    generalize vs 49 = s49
                                    generalize vs 50 = s50
                                    generalize vs 51 = s51
                                    clear hv hal hne hb HL0 HBW HLS e52
                                    go_wp2_with fail
                                    go_roundw
                                    case rel => exact ⟨T + 1, by omega, by rw [cntN_no (p := (Ex (colF Wd Ht xs) true)) HX0.out, HFL.out], by rw [cntN_no (p := (Mir (colF Wd Ht xs))) HX1.out, HMI.out], by rw [cntN_yes (p := (fun k => Mir (colF Wd Ht xs) k ∧ Cen (colF Wd Ht xs) k)) HX2.out]; exact (congrArg Value.bool (decide_eq_true (Nat.succ_pos _))).symm, by go_num, ⟨Env.front (L := [⟨w.heap.size, 27, [.int .i64 Wd, .int .i64 Ht, .slice (some ad) xs.length k]⟩, ⟨g24, 27, [.int .i64 Wd, .int .i64 Ht, .slice (some ad) xs.length k]⟩, ⟨g4, 104, [.int .i64 Wd, .int .i64 Ht, .slice (some ad) xs.length k, .int .i64 n, .func (.func 82) #[] #[.pointer (some ⟨g24, 0, none⟩)]]⟩]) HE.out, HB.out⟩⟩
                                    case measure => simp [intOf]; omega
                              · have HX2 := Hd.mk hx2
                                clear hx2
                                rcases (show c = true ∨ c = false by cases c <;> simp) with hc0 | hc0
                                · have HC0 := Hd.mk hc0
                                  clear hc0
                                  go_upto_region 16 with fail
                                  refine wp_region_vd 5 [48, 49, 50, 51, 52] [0, 1, 4] [] 84 [.int .i64 0, .int .i64 0] [isV (.bool true), isV (.bool true), isV undef, isV undef, isV (.bool true)] (by rfl) alloc_Z ?_ ?_
                                  · intro qi qh qA aa wx hb hs hd
                                    match qi, qh, qA with
                                    | 0, _, _ => exact .inl ⟨rfl, pure_b (bool_eq HC0.out) (op_mv rfl (hs 9 rfl))⟩
                                    | 1, _, _ => exact .inl ⟨rfl, op_mv rfl (hd 0 rfl)⟩
                                    | 2, _, _ => exact .inr ⟨⟨rfl, .inl (hd 1 rfl)⟩, rfl⟩
                                    | 3, _, _ => exact .inr ⟨⟨rfl, .inl (hd 1 rfl)⟩, rfl⟩
                                    | 4, _, _ => exact .inl ⟨rfl, ⟨_, op_pickT rfl (hd 1 rfl) rfl, rfl⟩⟩
                                    | qi + 5, h, _ => omega
                                  · intro vs X6 hb hv hal hne
                                    have HL0 := Hd.mk (HE.out.lt)
                                    have HBW := HB
                                    replace HB := Hd.mk (bel_then HB.out hb)
                                    replace HE : Hd (Env X6 [⟨w.heap.size, 27, [.int .i64 Wd, .int .i64 Ht, .slice (some ad) xs.length k]⟩, ⟨g24, 27, [.int .i64 Wd, .int .i64 Ht, .slice (some ad) xs.length k]⟩, ⟨g4, 104, [.int .i64 Wd, .int .i64 Ht, .slice (some ad) xs.length k, .int .i64 n, .func (.func 82) #[] #[.pointer (some ⟨g24, 0, none⟩)]]⟩, ⟨g11, 107, [.bool (bP (Ex (colF Wd Ht xs) true T)), .bool (bP (MirP n (colF Wd Ht xs) true T)), .bool (bP (MirP n (colF Wd Ht xs) true T ∧ CenP n (colF Wd Ht xs) true T))]⟩]) := ⟨HE.out.to hb⟩
                                    have HLS := HL0
                                    have e52 : vs 52 = .bool true := hv 4 (by decide) rfl
                                    simp only [putAll, List.foldl_cons, List.foldl_nil, Act.put, List.setIfInBounds_toArray, List.set_cons_succ, List.set_cons_zero, List.drop_succ_cons, List.drop_zero, e52]
                                    generalize vs 48 = s48
                                    generalize vs 49 = s49
                                    generalize vs 50 = s50
                                    generalize vs 51 = s51
                                    clear hv hal hne hb HL0 HBW HLS e52
                                    go_wp2_with fail
                                    go_roundw
                                    case rel => exact ⟨T + 1, by omega, by rw [cntN_no (p := (Ex (colF Wd Ht xs) true)) HX0.out, HFL.out], by rw [cntN_no (p := (Mir (colF Wd Ht xs))) HX1.out, HMI.out], by rw [cntN_no (p := (fun k => Mir (colF Wd Ht xs) k ∧ Cen (colF Wd Ht xs) k)) HX2.out, HCE.out, HCD.out, HC0.out], by go_num, ⟨Env.front (L := [⟨w.heap.size, 27, [.int .i64 Wd, .int .i64 Ht, .slice (some ad) xs.length k]⟩, ⟨g24, 27, [.int .i64 Wd, .int .i64 Ht, .slice (some ad) xs.length k]⟩, ⟨g4, 104, [.int .i64 Wd, .int .i64 Ht, .slice (some ad) xs.length k, .int .i64 n, .func (.func 82) #[] #[.pointer (some ⟨g24, 0, none⟩)]]⟩]) HE.out, HB.out⟩⟩
                                    case measure => simp [intOf]; omega
                                · have HC0 := Hd.mk hc0
                                  clear hc0
                                  go_upto_region 16 with fail
                                  refine wp_region_vd 5 [48, 49, 50, 51, 52] [0, 1, 2, 4] [] 84 [.int .i64 0, .int .i64 0] [isV (.bool false), isV (.bool false), isV (.pointer (some ⟨g11, 2, none⟩)), isV (.bool false), isV (.bool false)] (by rfl) alloc_Z ?_ ?_
                                  · intro qi qh qA aa wx hb hs hd
                                    match qi, qh, qA with
                                    | 0, _, _ => exact .inl ⟨rfl, pure_b (bool_eq HC0.out) (op_mv rfl (hs 9 rfl))⟩
                                    | 1, _, _ => exact .inl ⟨rfl, op_mv rfl (hd 0 rfl)⟩
                                    | 2, _, _ => exact .inl ⟨⟨rfl, .inl (hd 1 rfl)⟩, ⟨_, op_faC2 rfl (hs 11 rfl), rfl⟩⟩
                                    | 3, _, _ => exact .inl ⟨⟨rfl, .inl (hd 1 rfl)⟩, wp_b (bool_eq (bP_false.2 (fun h7 => HX2.out ⟨HMP.out.1 h7.1, HCP.out.1 h7.2⟩))) (op_ldB rfl rfl (hd 2 rfl) ((HE.out.to hb).cell 3 2 rfl rfl))⟩
                                    | 4, _, _ => exact .inl ⟨rfl, ⟨_, op_pickF rfl (hd 1 rfl) (hd 3 rfl), rfl⟩⟩
                                    | qi + 5, h, _ => omega
                                  · intro vs X6 hb hv hal hne
                                    have HL0 := Hd.mk (HE.out.lt)
                                    have HBW := HB
                                    replace HB := Hd.mk (bel_then HB.out hb)
                                    replace HE : Hd (Env X6 [⟨w.heap.size, 27, [.int .i64 Wd, .int .i64 Ht, .slice (some ad) xs.length k]⟩, ⟨g24, 27, [.int .i64 Wd, .int .i64 Ht, .slice (some ad) xs.length k]⟩, ⟨g4, 104, [.int .i64 Wd, .int .i64 Ht, .slice (some ad) xs.length k, .int .i64 n, .func (.func 82) #[] #[.pointer (some ⟨g24, 0, none⟩)]]⟩, ⟨g11, 107, [.bool (bP (Ex (colF Wd Ht xs) true T)), .bool (bP (MirP n (colF Wd Ht xs) true T)), .bool (bP (MirP n (colF Wd Ht xs) true T ∧ CenP n (colF Wd Ht xs) true T))]⟩]) := ⟨HE.out.to hb⟩
                                    have HLS := HL0
                                    have e52 : vs 52 = .bool false := hv 4 (by decide) rfl
                                    simp only [putAll, List.foldl_cons, List.foldl_nil, Act.put, List.setIfInBounds_toArray, List.set_cons_succ, List.set_cons_zero, List.drop_succ_cons, List.drop_zero, e52]
                                    generalize vs 48 = s48
                                    generalize vs 49 = s49
                                    generalize vs 50 = s50
                                    generalize vs 51 = s51
                                    clear hv hal hne hb HL0 HBW HLS e52
                                    go_wp2_with fail
                                    go_roundw
                                    case rel => exact ⟨T + 1, by omega, by rw [cntN_no (p := (Ex (colF Wd Ht xs) true)) HX0.out, HFL.out], by rw [cntN_no (p := (Mir (colF Wd Ht xs))) HX1.out, HMI.out], by rw [cntN_no (p := (fun k => Mir (colF Wd Ht xs) k ∧ Cen (colF Wd Ht xs) k)) HX2.out, HCE.out, HCD.out, HC0.out], by go_num, ⟨Env.front (L := [⟨w.heap.size, 27, [.int .i64 Wd, .int .i64 Ht, .slice (some ad) xs.length k]⟩, ⟨g24, 27, [.int .i64 Wd, .int .i64 Ht, .slice (some ad) xs.length k]⟩, ⟨g4, 104, [.int .i64 Wd, .int .i64 Ht, .slice (some ad) xs.length k, .int .i64 n, .func (.func 82) #[] #[.pointer (some ⟨g24, 0, none⟩)]]⟩]) HE.out, HB.out⟩⟩
                                    case measure => simp [intOf]; omega
                · have eT : T = 4 := by omega
                  subst eT
                  have HML : Hd (q = false → mi ≤ 2) := ⟨fun hq => by rw [← HMI.out, cntN_four]; exact mirrors_le (HQ.out.trans hq)⟩
                  have HRES : Hd (kindF (colF Wd Ht xs) = kindB q h fl mi c) := ⟨by rw [kindF_P, HFL.out, HMI.out, HCE.out, HQ.out, HH2.out, HCD.out]⟩
                  clear HFL HMI HCE HCD
                  rcases (show q = true ∨ q = false by cases q <;> simp) with hb0 | hb0
                  · have HQV := Hd.mk hb0
                    clear hb0
                    by_cases h0 : fl = 0
                    · skip
                      go_upto_region 18 with fail
                      refine wp_region_vd 5 [55, 56, 57, 58, 59] [0, 1, 2, 3, 4] [] 84 [.int .i64 0, .int .i64 0] [isV (.bool true), isV (.bool true), isV (.int .i64 (((fl : Nat) : Int))), isV (.bool true), isV (.bool true)] (by rfl) alloc_Z ?_ ?_
                      · intro qi qh qA aa wx hb hs hd
                        match qi, qh, qA with
                        | 0, _, _ => exact .inl ⟨rfl, pure_b (bool_eq HQV.out) (op_mv rfl (hs 5 rfl))⟩
                        | 1, _, _ => exact .inl ⟨rfl, op_mv rfl (hd 0 rfl)⟩
                        | 2, _, _ => exact .inl ⟨⟨rfl, .inl (hd 1 rfl)⟩, op_mv rfl (hs 7 rfl)⟩
                        | 3, _, _ => exact .inl ⟨⟨rfl, .inl (hd 1 rfl)⟩, pure_b (bool_eq (decide_eq_true (by omega))) (⟨_, op_eqlI rfl (hd 2 rfl) rfl, rfl⟩)⟩
                        | 4, _, _ => exact .inl ⟨rfl, ⟨_, op_pickT rfl (hd 1 rfl) (hd 3 rfl), rfl⟩⟩
                        | qi + 5, h, _ => omega
                      · intro vs X1 hb hv hal hne
                        have HL0 := Hd.mk (HE.out.lt)
                        have HBW := HB
                        replace HB := Hd.mk (bel_then HB.out hb)
                        replace HE : Hd (Env X1 [⟨w.heap.size, 27, [.int .i64 Wd, .int .i64 Ht, .slice (some ad) xs.length k]⟩, ⟨g24, 27, [.int .i64 Wd, .int .i64 Ht, .slice (some ad) xs.length k]⟩, ⟨g4, 104, [.int .i64 Wd, .int .i64 Ht, .slice (some ad) xs.length k, .int .i64 n, .func (.func 82) #[] #[.pointer (some ⟨g24, 0, none⟩)]]⟩]) := ⟨HE.out.to hb⟩
                        have HLS := HL0
                        have e59 : vs 59 = .bool true := hv 4 (by decide) rfl
                        simp only [putAll, List.foldl_cons, List.foldl_nil, Act.put, List.setIfInBounds_toArray, List.set_cons_succ, List.set_cons_zero, List.drop_succ_cons, List.drop_zero, e59]
                        generalize vs 55 = s55
                        generalize vs 56 = s56
                        generalize vs 57 = s57
                        generalize vs 58 = s58
                        clear hv hal hne hb HL0 HBW HLS e59
                        go_upto_region 19 with fail
                        refine wp_region_vd 0 [] [] [] 84 [.int .i64 0, .int .i64 0] [] (by rfl) alloc_Z ?_ ?_
                        · intro qi qh qA aa wx hb hs hd
                          match qi, qh, qA with
                          | qi + 0, h, _ => omega
                        · intro vs X2 hb hv hal hne
                          have HL0 := Hd.mk (HE.out.lt)
                          have HBW := HB
                          replace HB := Hd.mk (bel_then HB.out hb)
                          replace HE : Hd (Env X2 [⟨w.heap.size, 27, [.int .i64 Wd, .int .i64 Ht, .slice (some ad) xs.length k]⟩, ⟨g24, 27, [.int .i64 Wd, .int .i64 Ht, .slice (some ad) xs.length k]⟩, ⟨g4, 104, [.int .i64 Wd, .int .i64 Ht, .slice (some ad) xs.length k, .int .i64 n, .func (.func 82) #[] #[.pointer (some ⟨g24, 0, none⟩)]]⟩]) := ⟨HE.out.to hb⟩
                          have HLS := HL0
                          simp only [putAll, List.foldl_cons, List.foldl_nil, Act.put, List.setIfInBounds_toArray, List.set_cons_succ, List.set_cons_zero, List.drop_succ_cons, List.drop_zero]
                          clear hv hal hne hb HL0 HBW HLS
                          go_wp2_with fail
                          refine bodyPost_ret (v := .tuple #[.string { data := #[112, 52] }, .int .i64 0]) (by simp [results, Try.results34, go_sem]) rfl ?_
                          exact ⟨_, rfl, HB.out, _, _, rfl, by show _ = knm _; rw [HRES.out, show kindB q h fl mi c = 0 from by unfold kindB; simp [HQV.out, h0]]; rfl, rfl⟩
                    · skip
                      go_upto_region 18 with fail
                      refine wp_region_vd 5 [55, 56, 57, 58, 59] [0, 1, 2, 3, 4] [] 84 [.int .i64 0, .int .i64 0] [isV (.bool true), isV (.bool true), isV (.int .i64 (((fl : Nat) : Int))), isV (.bool false), isV (.bool false)] (by rfl) alloc_Z ?_ ?_
                      · intro qi qh qA aa wx hb hs hd
                        match qi, qh, qA with
                        | 0, _, _ => exact .inl ⟨rfl, pure_b (bool_eq HQV.out) (op_mv rfl (hs 5 rfl))⟩
                        | 1, _, _ => exact .inl ⟨rfl, op_mv rfl (hd 0 rfl)⟩
                        | 2, _, _ => exact .inl ⟨⟨rfl, .inl (hd 1 rfl)⟩, op_mv rfl (hs 7 rfl)⟩
                        | 3, _, _ => exact .inl ⟨⟨rfl, .inl (hd 1 rfl)⟩, pure_b (bool_eq (decide_eq_false (by omega))) (⟨_, op_eqlI rfl (hd 2 rfl) rfl, rfl⟩)⟩
                        | 4, _, _ => exact .inl ⟨rfl, ⟨_, op_pickT rfl (hd 1 rfl) (hd 3 rfl), rfl⟩⟩
                        | qi + 5, h, _ => omega
                      · intro vs X1 hb hv hal hne
                        have HL0 := Hd.mk (HE.out.lt)
                        have HBW := HB
                        replace HB := Hd.mk (bel_then HB.out hb)
                        replace HE : Hd (Env X1 [⟨w.heap.size, 27, [.int .i64 Wd, .int .i64 Ht, .slice (some ad) xs.length k]⟩, ⟨g24, 27, [.int .i64 Wd, .int .i64 Ht, .slice (some ad) xs.length k]⟩, ⟨g4, 104, [.int .i64 Wd, .int .i64 Ht, .slice (some ad) xs.length k, .int .i64 n, .func (.func 82) #[] #[.pointer (some ⟨g24, 0, none⟩)]]⟩]) := ⟨HE.out.to hb⟩
                        have HLS := HL0
                        have e59 : vs 59 = .bool false := hv 4 (by decide) rfl
                        simp only [putAll, List.foldl_cons, List.foldl_nil, Act.put, List.setIfInBounds_toArray, List.set_cons_succ, List.set_cons_zero, List.drop_succ_cons, List.drop_zero, e59]
                        generalize vs 55 = s55
                        generalize vs 56 = s56
                        generalize vs 57 = s57
                        generalize vs 58 = s58
                        clear hv hal hne hb HL0 HBW HLS e59
                        by_cases h1 : mi = 4
                        · skip
                          go_upto_region 20 with fail
                          refine wp_region_vd 5 [61, 62, 63, 64, 65] [0, 1, 2, 3, 4] [] 84 [.int .i64 0, .int .i64 0] [isV (.bool true), isV (.bool true), isV (.int .i64 (((mi : Nat) : Int))), isV (.bool true), isV (.bool true)] (by rfl) alloc_Z ?_ ?_
                          · intro qi qh qA aa wx hb hs hd
                            match qi, qh, qA with
                            | 0, _, _ => exact .inl ⟨rfl, pure_b (bool_eq HQV.out) (op_mv rfl (hs 5 rfl))⟩
                            | 1, _, _ => exact .inl ⟨rfl, op_mv rfl (hd 0 rfl)⟩
                            | 2, _, _ => exact .inl ⟨⟨rfl, .inl (hd 1 rfl)⟩, op_mv rfl (hs 8 rfl)⟩
                            | 3, _, _ => exact .inl ⟨⟨rfl, .inl (hd 1 rfl)⟩, pure_b (bool_eq (decide_eq_true (by omega))) (⟨_, op_eqlI rfl (hd 2 rfl) rfl, rfl⟩)⟩
                            | 4, _, _ => exact .inl ⟨rfl, ⟨_, op_pickT rfl (hd 1 rfl) (hd 3 rfl), rfl⟩⟩
                            | qi + 5, h, _ => omega
                          · intro vs X2 hb hv hal hne
                            have HL0 := Hd.mk (HE.out.lt)
                            have HBW := HB
                            replace HB := Hd.mk (bel_then HB.out hb)
                            replace HE : Hd (Env X2 [⟨w.heap.size, 27, [.int .i64 Wd, .int .i64 Ht, .slice (some ad) xs.length k]⟩, ⟨g24, 27, [.int .i64 Wd, .int .i64 Ht, .slice (some ad) xs.length k]⟩, ⟨g4, 104, [.int .i64 Wd, .int .i64 Ht, .slice (some ad) xs.length k, .int .i64 n, .func (.func 82) #[] #[.pointer (some ⟨g24, 0, none⟩)]]⟩]) := ⟨HE.out.to hb⟩
                            have HLS := HL0
                            have e65 : vs 65 = .bool true := hv 4 (by decide) rfl
                            simp only [putAll, List.foldl_cons, List.foldl_nil, Act.put, List.setIfInBounds_toArray, List.set_cons_succ, List.set_cons_zero, List.drop_succ_cons, List.drop_zero, e65]
                            generalize vs 61 = s61
                            generalize vs 62 = s62
                            generalize vs 63 = s63
                            generalize vs 64 = s64
                            clear hv hal hne hb HL0 HBW HLS e65
                            go_upto_region 21 with fail
                            refine wp_region_vd 0 [] [] [] 84 [.int .i64 0, .int .i64 0] [] (by rfl) alloc_Z ?_ ?_
                            · intro qi qh qA aa wx hb hs hd
                              match qi, qh, qA with
                              | qi + 0, h, _ => omega
                            · intro vs X3 hb hv hal hne
                              have HL0 := Hd.mk (HE.out.lt)
                              have HBW := HB
                              replace HB := Hd.mk (bel_then HB.out hb)
                              replace HE : Hd (Env X3 [⟨w.heap.size, 27, [.int .i64 Wd, .int .i64 Ht, .slice (some ad) xs.length k]⟩, ⟨g24, 27, [.int .i64 Wd, .int .i64 Ht, .slice (some ad) xs.length k]⟩, ⟨g4, 104, [.int .i64 Wd, .int .i64 Ht, .slice (some ad) xs.length k, .int .i64 n, .func (.func 82) #[] #[.pointer (some ⟨g24, 0, none⟩)]]⟩]) := ⟨HE.out.to hb⟩
                              have HLS := HL0
                              simp only [putAll, List.foldl_cons, List.foldl_nil, Act.put, List.setIfInBounds_toArray, List.set_cons_succ, List.set_cons_zero, List.drop_succ_cons, List.drop_zero]
                              clear hv hal hne hb HL0 HBW HLS
                              go_wp2_with fail
                              refine bodyPost_ret (v := .tuple #[.string { data := #[112, 52, 109] }, .int .i64 0]) (by simp [results, Try.results34, go_sem]) rfl ?_
                              exact ⟨_, rfl, HB.out, _, _, rfl, by show _ = knm _; rw [HRES.out, show kindB q h fl mi c = 1 from by unfold kindB; simp [HQV.out, h0, h1]]; rfl, rfl⟩
                        · skip
                          go_upto_region 20 with fail
                          refine wp_region_vd 5 [61, 62, 63, 64, 65] [0, 1, 2, 3, 4] [] 84 [.int .i64 0, .int .i64 0] [isV (.bool true), isV (.bool true), isV (.int .i64 (((mi : Nat) : Int))), isV (.bool false), isV (.bool false)] (by rfl) alloc_Z ?_ ?_
                          · intro qi qh qA aa wx hb hs hd
                            match qi, qh, qA with
                            | 0, _, _ => exact .inl ⟨rfl, pure_b (bool_eq HQV.out) (op_mv rfl (hs 5 rfl))⟩
                            | 1, _, _ => exact .inl ⟨rfl, op_mv rfl (hd 0 rfl)⟩
                            | 2, _, _ => exact .inl ⟨⟨rfl, .inl (hd 1 rfl)⟩, op_mv rfl (hs 8 rfl)⟩
                            | 3, _, _ => exact .inl ⟨⟨rfl, .inl (hd 1 rfl)⟩, pure_b (bool_eq (decide_eq_false (by omega))) (⟨_, op_eqlI rfl (hd 2 rfl) rfl, rfl⟩)⟩
                            | 4, _, _ => exact .inl ⟨rfl, ⟨_, op_pickT rfl (hd 1 rfl) (hd 3 rfl), rfl⟩⟩
                            | qi + 5, h, _ => omega
                          · intro vs X2 hb hv hal hne
                            have HL0 := Hd.mk (HE.out.lt)
                            have HBW := HB
                            replace HB := Hd.mk (bel_then HB.out hb)
                            replace HE : Hd (Env X2 [⟨w.heap.size, 27, [.int .i64 Wd, .int .i64 Ht, .slice (some ad) xs.length k]⟩, ⟨g24, 27, [.int .i64 Wd, .int .i64 Ht, .slice (some ad) xs.length k]⟩, ⟨g4, 104, [.int .i64 Wd, .int .i64 Ht, .slice (some ad) xs.length k, .int .i64 n, .func (.func 82) #[] #[.pointer (some ⟨g24, 0, none⟩)]]⟩]) := ⟨HE.out.to hb⟩
                            have HLS := HL0
                            have e65 : vs 65 = .bool false := hv 4 (by decide) rfl
                            simp only [putAll, List.foldl_cons, List.foldl_nil, Act.put, List.setIfInBounds_toArray, List.set_cons_succ, List.set_cons_zero, List.drop_succ_cons, List.drop_zero, e65]
                            generalize vs 61 = s61
                            generalize vs 62 = s62
                            generalize vs 63 = s63
                            generalize vs 64 = s64
                            clear hv hal hne hb HL0 HBW HLS e65
                            go_upto_region 22 with fail
                            refine wp_region_vd 1 [67] [0] [] 84 [.int .i64 0, .int .i64 0] [isV (.bool true)] (by rfl) alloc_Z ?_ ?_
                            · intro qi qh qA aa wx hb hs hd
                              match qi, qh, qA with
                              | 0, _, _ => exact .inl ⟨rfl, pure_b (bool_eq HQV.out) (op_mv rfl (hs 5 rfl))⟩
                              | qi + 1, h, _ => omega
                            · intro vs X3 hb hv hal hne
                              have HL0 := Hd.mk (HE.out.lt)
                              have HBW := HB
                              replace HB := Hd.mk (bel_then HB.out hb)
                              replace HE : Hd (Env X3 [⟨w.heap.size, 27, [.int .i64 Wd, .int .i64 Ht, .slice (some ad) xs.length k]⟩, ⟨g24, 27, [.int .i64 Wd, .int .i64 Ht, .slice (some ad) xs.length k]⟩, ⟨g4, 104, [.int .i64 Wd, .int .i64 Ht, .slice (some ad) xs.length k, .int .i64 n, .func (.func 82) #[] #[.pointer (some ⟨g24, 0, none⟩)]]⟩]) := ⟨HE.out.to hb⟩
                              have HLS := HL0
                              have e67 : vs 67 = .bool true := hv 0 (by decide) rfl
                              simp only [putAll, List.foldl_cons, List.foldl_nil, Act.put, List.setIfInBounds_toArray, List.set_cons_succ, List.set_cons_zero, List.drop_succ_cons, List.drop_zero, e67]
                              clear hv hal hne hb HL0 HBW HLS e67
                              go_upto_region 23 with fail
                              refine wp_region_vd 0 [] [] [] 84 [.int .i64 0, .int .i64 0] [] (by rfl) alloc_Z ?_ ?_
                              · intro qi qh qA aa wx hb hs hd
                                match qi, qh, qA with
                                | qi + 0, h, _ => omega
                              · intro vs X4 hb hv hal hne
                                have HL0 := Hd.mk (HE.out.lt)
                                have HBW := HB
                                replace HB := Hd.mk (bel_then HB.out hb)
                                replace HE : Hd (Env X4 [⟨w.heap.size, 27, [.int .i64 Wd, .int .i64 Ht, .slice (some ad) xs.length k]⟩, ⟨g24, 27, [.int .i64 Wd, .int .i64 Ht, .slice (some ad) xs.length k]⟩, ⟨g4, 104, [.int .i64 Wd, .int .i64 Ht, .slice (some ad) xs.length k, .int .i64 n, .func (.func 82) #[] #[.pointer (some ⟨g24, 0, none⟩)]]⟩]) := ⟨HE.out.to hb⟩
                                have HLS := HL0
                                simp only [putAll, List.foldl_cons, List.foldl_nil, Act.put, List.setIfInBounds_toArray, List.set_cons_succ, List.set_cons_zero, List.drop_succ_cons, List.drop_zero]
                                clear hv hal hne hb HL0 HBW HLS
                                go_wp2_with fail
                                refine bodyPost_ret (v := .tuple #[.string { data := #[112, 52, 103] }, .int .i64 0]) (by simp [results, Try.results34, go_sem]) rfl ?_
                                exact ⟨_, rfl, HB.out, _, _, rfl, by show _ = knm _; rw [HRES.out, show kindB q h fl mi c = 2 from by unfold kindB; simp [HQV.out, h0, h1]]; rfl, rfl⟩
                  · have HQV := Hd.mk hb0
                    clear hb0
                    go_upto_region 18 with fail
                    refine wp_region_vd 5 [55, 56, 57, 58, 59] [0, 1, 4] [] 84 [.int .i64 0, .int .i64 0] [isV (.bool false), isV (.bool false), isV undef, isV undef, isV (.bool false)] (by rfl) alloc_Z ?_ ?_
                    · intro qi qh qA aa wx hb hs hd
                      match qi, qh, qA with
                      | 0, _, _ => exact .inl ⟨rfl, pure_b (bool_eq HQV.out) (op_mv rfl (hs 5 rfl))⟩
                      | 1, _, _ => exact .inl ⟨rfl, op_mv rfl (hd 0 rfl)⟩
                      | 2, _, _ => exact .inr ⟨⟨rfl, .inl (hd 1 rfl)⟩, rfl⟩
                      | 3, _, _ => exact .inr ⟨⟨rfl, .inl (hd 1 rfl)⟩, rfl⟩
                      | 4, _, _ => exact .inl ⟨rfl, ⟨_, op_pickF rfl (hd 1 rfl) rfl, rfl⟩⟩
                      | qi + 5, h, _ => omega
                    · intro vs X1 hb hv hal hne
                      have HL0 := Hd.mk (HE.out.lt)
                      have HBW := HB
                      replace HB := Hd.mk (bel_then HB.out hb)
                      replace HE : Hd (Env X1 [⟨w.heap.size, 27, [.int .i64 Wd, .int .i64 Ht, .slice (some ad) xs.length k]⟩, ⟨g24, 27, [.int .i64 Wd, .int .i64 Ht, .slice (some ad) xs.length k]⟩, ⟨g4, 104, [.int .i64 Wd, .int .i64 Ht, .slice (some ad) xs.length k, .int .i64 n, .func (.func 82) #[] #[.pointer (some ⟨g24, 0, none⟩)]]⟩]) := ⟨HE.out.to hb⟩
                      have HLS := HL0
                      have e59 : vs 59 = .bool false := hv 4 (by decide) rfl
                      simp only [putAll, List.foldl_cons, List.foldl_nil, Act.put, List.setIfInBounds_toArray, List.set_cons_succ, List.set_cons_zero, List.drop_succ_cons, List.drop_zero, e59]
                      generalize vs 55 = s55
                      generalize vs 56 = s56
                      generalize vs 57 = s57
                      generalize vs 58 = s58
                      clear hv hal hne hb HL0 HBW HLS e59
                      go_upto_region 20 with fail
                      refine wp_region_vd 5 [61, 62, 63, 64, 65] [0, 1, 4] [] 84 [.int .i64 0, .int .i64 0] [isV (.bool false), isV (.bool false), isV undef, isV undef, isV (.bool false)] (by rfl) alloc_Z ?_ ?_
                      · intro qi qh qA aa wx hb hs hd
                        match qi, qh, qA with
                        | 0, _, _ => exact .inl ⟨rfl, pure_b (bool_eq HQV.out) (op_mv rfl (hs 5 rfl))⟩
                        | 1, _, _ => exact .inl ⟨rfl, op_mv rfl (hd 0 rfl)⟩
                        | 2, _, _ => exact .inr ⟨⟨rfl, .inl (hd 1 rfl)⟩, rfl⟩
                        | 3, _, _ => exact .inr ⟨⟨rfl, .inl (hd 1 rfl)⟩, rfl⟩
                        | 4, _, _ => exact .inl ⟨rfl, ⟨_, op_pickF rfl (hd 1 rfl) rfl, rfl⟩⟩
                        | qi + 5, h, _ => omega
                      · intro vs X2 hb hv hal hne
                        have HL0 := Hd.mk (HE.out.lt)
                        have HBW := HB
                        replace HB := Hd.mk (bel_then HB.out hb)
                        replace HE : Hd (Env X2 [⟨w.heap.size, 27, [.int .i64 Wd, .int .i64 Ht, .slice (some ad) xs.length k]⟩, ⟨g24, 27, [.int .i64 Wd, .int .i64 Ht, .slice (some ad) xs.length k]⟩, ⟨g4, 104, [.int .i64 Wd, .int .i64 Ht, .slice (some ad) xs.length k, .int .i64 n, .func (.func 82) #[] #[.pointer (some ⟨g24, 0, none⟩)]]⟩]) := ⟨HE.out.to hb⟩
                        have HLS := HL0
                        have e65 : vs 65 = .bool false := hv 4 (by decide) rfl
                        simp only [putAll, List.foldl_cons, List.foldl_nil, Act.put, List.setIfInBounds_toArray, List.set_cons_succ, List.set_cons_zero, List.drop_succ_cons, List.drop_zero, e65]
                        generalize vs 61 = s61
                        generalize vs 62 = s62
                        generalize vs 63 = s63
                        generalize vs 64 = s64
                        clear hv hal hne hb HL0 HBW HLS e65
                        go_upto_region 22 with fail
                        refine wp_region_vd 1 [67] [0] [] 84 [.int .i64 0, .int .i64 0] [isV (.bool false)] (by rfl) alloc_Z ?_ ?_
                        · intro qi qh qA aa wx hb hs hd
                          match qi, qh, qA with
                          | 0, _, _ => exact .inl ⟨rfl, pure_b (bool_eq HQV.out) (op_mv rfl (hs 5 rfl))⟩
                          | qi + 1, h, _ => omega
                        · intro vs X3 hb hv hal hne
                          have HL0 := Hd.mk (HE.out.lt)
                          have HBW := HB
                          replace HB := Hd.mk (bel_then HB.out hb)
                          replace HE : Hd (Env X3 [⟨w.heap.size, 27, [.int .i64 Wd, .int .i64 Ht, .slice (some ad) xs.length k]⟩, ⟨g24, 27, [.int .i64 Wd, .int .i64 Ht, .slice (some ad) xs.length k]⟩, ⟨g4, 104, [.int .i64 Wd, .int .i64 Ht, .slice (some ad) xs.length k, .int .i64 n, .func (.func 82) #[] #[.pointer (some ⟨g24, 0, none⟩)]]⟩]) := ⟨HE.out.to hb⟩
                          have HLS := HL0
                          have e67 : vs 67 = .bool false := hv 0 (by decide) rfl
                          simp only [putAll, List.foldl_cons, List.foldl_nil, Act.put, List.setIfInBounds_toArray, List.set_cons_succ, List.set_cons_zero, List.drop_succ_cons, List.drop_zero, e67]
                          clear hv hal hne hb HL0 HBW HLS e67
                          rcases (show h = true ∨ h = false by cases h <;> simp) with hb0 | hb0
                          · have HHV := Hd.mk hb0
                            clear hb0
                            by_cases h0 : fl = 0
                            · skip
                              go_upto_region 24 with fail
                              refine wp_region_vd 5 [69, 70, 71, 72, 73] [0, 1, 2, 3, 4] [] 84 [.int .i64 0, .int .i64 0] [isV (.bool true), isV (.bool true), isV (.int .i64 (((fl : Nat) : Int))), isV (.bool true), isV (.bool true)] (by rfl) alloc_Z ?_ ?_
                              · intro qi qh qA aa wx hb hs hd
                                match qi, qh, qA with
                                | 0, _, _ => exact .inl ⟨rfl, pure_b (bool_eq HHV.out) (op_mv rfl (hs 6 rfl))⟩
                                | 1, _, _ => exact .inl ⟨rfl, op_mv rfl (hd 0 rfl)⟩
                                | 2, _, _ => exact .inl ⟨⟨rfl, .inl (hd 1 rfl)⟩, op_mv rfl (hs 7 rfl)⟩
                                | 3, _, _ => exact .inl ⟨⟨rfl, .inl (hd 1 rfl)⟩, pure_b (bool_eq (decide_eq_true (by omega))) (⟨_, op_eqlI rfl (hd 2 rfl) rfl, rfl⟩)⟩
                                | 4, _, _ => exact .inl ⟨rfl, ⟨_, op_pickT rfl (hd 1 rfl) (hd 3 rfl), rfl⟩⟩
                                | qi + 5, h, _ => omega
                              · intro vs X4 hb hv hal hne
                                have HL0 := Hd.mk (HE.out.lt)
                                have HBW := HB
                                replace HB := Hd.mk (bel_then HB.out hb)
                                replace HE : Hd (Env X4 [⟨w.heap.size, 27, [.int .i64 Wd, .int .i64 Ht, .slice (some ad) xs.length k]⟩, ⟨g24, 27, [.int .i64 Wd, .int .i64 Ht, .slice (some ad) xs.length k]⟩, ⟨g4, 104, [.int .i64 Wd, .int .i64 Ht, .slice (some ad) xs.length k, .int .i64 n, .func (.func 82) #[] #[.pointer (some ⟨g24, 0, none⟩)]]⟩]) := ⟨HE.out.to hb⟩
                                have HLS := HL0
                                have e73 : vs 73 = .bool true := hv 4 (by decide) rfl
                                simp only [putAll, List.foldl_cons, List.foldl_nil, Act.put, List.setIfInBounds_toArray, List.set_cons_succ, List.set_cons_zero, List.drop_succ_cons, List.drop_zero, e73]
                                generalize vs 69 = s69
                                generalize vs 70 = s70
                                generalize vs 71 = s71
                                generalize vs 72 = s72
                                clear hv hal hne hb HL0 HBW HLS e73
                                go_upto_region 25 with fail
                                refine wp_region_vd 0 [] [] [] 84 [.int .i64 0, .int .i64 0] [] (by rfl) alloc_Z ?_ ?_
                                · intro qi qh qA aa wx hb hs hd
                                  match qi, qh, qA with
                                  | qi + 0, h, _ => omega
                                · intro vs X5 hb hv hal hne
                                  have HL0 := Hd.mk (HE.out.lt)
                                  have HBW := HB
                                  replace HB := Hd.mk (bel_then HB.out hb)
                                  replace HE : Hd (Env X5 [⟨w.heap.size, 27, [.int .i64 Wd, .int .i64 Ht, .slice (some ad) xs.length k]⟩, ⟨g24, 27, [.int .i64 Wd, .int .i64 Ht, .slice (some ad) xs.length k]⟩, ⟨g4, 104, [.int .i64 Wd, .int .i64 Ht, .slice (some ad) xs.length k, .int .i64 n, .func (.func 82) #[] #[.pointer (some ⟨g24, 0, none⟩)]]⟩]) := ⟨HE.out.to hb⟩
                                  have HLS := HL0
                                  simp only [putAll, List.foldl_cons, List.foldl_nil, Act.put, List.setIfInBounds_toArray, List.set_cons_succ, List.set_cons_zero, List.drop_succ_cons, List.drop_zero]
                                  clear hv hal hne hb HL0 HBW HLS
                                  go_wp2_with fail
                                  refine bodyPost_ret (v := .tuple #[.string { data := #[112, 50] }, .int .i64 0]) (by simp [results, Try.results34, go_sem]) rfl ?_
                                  exact ⟨_, rfl, HB.out, _, _, rfl, by show _ = knm _; rw [HRES.out, show kindB q h fl mi c = 3 from by unfold kindB; simp [HQV.out, HHV.out, h0]]; rfl, rfl⟩
                            · skip
                              go_upto_region 24 with fail
                              refine wp_region_vd 5 [69, 70, 71, 72, 73] [0, 1, 2, 3, 4] [] 84 [.int .i64 0, .int .i64 0] [isV (.bool true), isV (.bool true), isV (.int .i64 (((fl : Nat) : Int))), isV (.bool false), isV (.bool false)] (by rfl) alloc_Z ?_ ?_
                              · intro qi qh qA aa wx hb hs hd
                                match qi, qh, qA with
                                | 0, _, _ => exact .inl ⟨rfl, pure_b (bool_eq HHV.out) (op_mv rfl (hs 6 rfl))⟩
                                | 1, _, _ => exact .inl ⟨rfl, op_mv rfl (hd 0 rfl)⟩
                                | 2, _, _ => exact .inl ⟨⟨rfl, .inl (hd 1 rfl)⟩, op_mv rfl (hs 7 rfl)⟩
                                | 3, _, _ => exact .inl ⟨⟨rfl, .inl (hd 1 rfl)⟩, pure_b (bool_eq (decide_eq_false (by omega))) (⟨_, op_eqlI rfl (hd 2 rfl) rfl, rfl⟩)⟩
                                | 4, _, _ => exact .inl ⟨rfl, ⟨_, op_pickT rfl (hd 1 rfl) (hd 3 rfl), rfl⟩⟩
                                | qi + 5, h, _ => omega
                              · intro vs X4 hb hv hal hne
                                have HL0 := Hd.mk (HE.out.lt)
                                have HBW := HB
                                replace HB := Hd.mk (bel_then HB.out hb)
                                replace HE : Hd (Env X4 [⟨w.heap.size, 27, [.int .i64 Wd, .int .i64 Ht, .slice (some ad) xs.length k]⟩, ⟨g24, 27, [.int .i64 Wd, .int .i64 Ht, .slice (some ad) xs.length k]⟩, ⟨g4, 104, [.int .i64 Wd, .int .i64 Ht, .slice (some ad) xs.length k, .int .i64 n, .func (.func 82) #[] #[.pointer (some ⟨g24, 0, none⟩)]]⟩]) := ⟨HE.out.to hb⟩
                                have HLS := HL0
                                have e73 : vs 73 = .bool false := hv 4 (by decide) rfl
                                simp only [putAll, List.foldl_cons, List.foldl_nil, Act.put, List.setIfInBounds_toArray, List.set_cons_succ, List.set_cons_zero, List.drop_succ_cons, List.drop_zero, e73]
                                generalize vs 69 = s69
                                generalize vs 70 = s70
                                generalize vs 71 = s71
                                generalize vs 72 = s72
                                clear hv hal hne hb HL0 HBW HLS e73
                                by_cases h1 : mi = 2
                                · skip
                                  rcases (show c = true ∨ c = false by cases c <;> simp) with hb0 | hb0
                                  · have HCV := Hd.mk hb0
                                    clear hb0
                                    go_upto_region 26 with fail
                                    refine wp_region_vd 8 [75, 76, 77, 78, 79, 80, 81, 82] [0, 1, 2, 3, 4, 5, 6, 7] [] 84 [.int .i64 0, .int .i64 0] [isV (.bool true), isV (.bool true), isV (.int .i64 (((mi : Nat) : Int))), isV (.bool true), isV (.bool true), isV (.bool true), isV (.bool true), isV (.bool true)] (by rfl) alloc_Z ?_ ?_
                                    · intro qi qh qA aa wx hb hs hd
                                      match qi, qh, qA with
                                      | 0, _, _ => exact .inl ⟨rfl, pure_b (bool_eq HHV.out) (op_mv rfl (hs 6 rfl))⟩
                                      | 1, _, _ => exact .inl ⟨rfl, op_mv rfl (hd 0 rfl)⟩
                                      | 2, _, _ => exact .inl ⟨⟨rfl, .inl (hd 1 rfl)⟩, op_mv rfl (hs 8 rfl)⟩
                                      | 3, _, _ => exact .inl ⟨⟨rfl, .inl (hd 1 rfl)⟩, pure_b (bool_eq (decide_eq_true (by omega))) (⟨_, op_eqlI rfl (hd 2 rfl) rfl, rfl⟩)⟩
                                      | 4, _, _ => exact .inl ⟨rfl, ⟨_, op_pickT rfl (hd 1 rfl) (hd 3 rfl), rfl⟩⟩
                                      | 5, _, _ => exact .inl ⟨rfl, op_mv rfl (hd 4 rfl)⟩
                                      | 6, _, _ => exact .inl ⟨⟨rfl, .inl (hd 5 rfl)⟩, pure_b (bool_eq HCV.out) (op_mv rfl (hs 9 rfl))⟩
                                      | 7, _, _ => exact .inl ⟨rfl, ⟨_, op_pickT rfl (hd 5 rfl) (hd 6 rfl), rfl⟩⟩
                                      | qi + 8, h, _ => omega
                                    · intro vs X5 hb hv hal hne
                                      have HL0 := Hd.mk (HE.out.lt)
                                      have HBW := HB
                                      replace HB := Hd.mk (bel_then HB.out hb)
                                      replace HE : Hd (Env X5 [⟨w.heap.size, 27, [.int .i64 Wd, .int .i64 Ht, .slice (some ad) xs.length k]⟩, ⟨g24, 27, [.int .i64 Wd, .int .i64 Ht, .slice (some ad) xs.length k]⟩, ⟨g4, 104, [.int .i64 Wd, .int .i64 Ht, .slice (some ad) xs.length k, .int .i64 n, .func (.func 82) #[] #[.pointer (some ⟨g24, 0, none⟩)]]⟩]) := ⟨HE.out.to hb⟩
                                      have HLS := HL0
                                      have e82 : vs 82 = .bool true := hv 7 (by decide) rfl
                                      simp only [putAll, List.foldl_cons, List.foldl_nil, Act.put, List.setIfInBounds_toArray, List.set_cons_succ, List.set_cons_zero, List.drop_succ_cons, List.drop_zero, e82]
                                      generalize vs 75 = s75
                                      generalize vs 76 = s76
                                      generalize vs 77 = s77
                                      generalize vs 78 = s78
                                      generalize vs 79 = s79
                                      generalize vs 80 = s80
                                      generalize vs 81 = s81
                                      clear hv hal hne hb HL0 HBW HLS e82
                                      go_upto_region 27 with fail
                                      refine wp_region_vd 0 [] [] [] 84 [.int .i64 0, .int .i64 0] [] (by rfl) alloc_Z ?_ ?_
                                      · intro qi qh qA aa wx hb hs hd
                                        match qi, qh, qA with
                                        | qi + 0, h, _ => omega
                                      · intro vs X6 hb hv hal hne
                                        have HL0 := Hd.mk (HE.out.lt)
                                        have HBW := HB
                                        replace HB := Hd.mk (bel_then HB.out hb)
                                        replace HE : Hd (Env X6 [⟨w.heap.size, 27, [.int .i64 Wd, .int .i64 Ht, .slice (some ad) xs.length k]⟩, ⟨g24, 27, [.int .i64 Wd, .int .i64 Ht, .slice (some ad) xs.length k]⟩, ⟨g4, 104, [.int .i64 Wd, .int .i64 Ht, .slice (some ad) xs.length k, .int .i64 n, .func (.func 82) #[] #[.pointer (some ⟨g24, 0, none⟩)]]⟩]) := ⟨HE.out.to hb⟩
                                        have HLS := HL0
                                        simp only [putAll, List.foldl_cons, List.foldl_nil, Act.put, List.setIfInBounds_toArray, List.set_cons_succ, List.set_cons_zero, List.drop_succ_cons, List.drop_zero]
                                        clear hv hal hne hb HL0 HBW HLS
                                        go_wp2_with fail
                                        refine bodyPost_ret (v := .tuple #[.string { data := #[99, 109, 109] }, .int .i64 0]) (by simp [results, Try.results34, go_sem]) rfl ?_
                                        exact ⟨_, rfl, HB.out, _, _, rfl, by show _ = knm _; rw [HRES.out, show kindB q h fl mi c = 4 from by unfold kindB; simp [HQV.out, HHV.out, h0, h1, HCV.out]]; rfl, rfl⟩
                                  · have HCV := Hd.mk hb0
                                    clear hb0
                                    go_upto_region 26 with fail
                                    refine wp_region_vd 8 [75, 76, 77, 78, 79, 80, 81, 82] [0, 1, 2, 3, 4, 5, 6, 7] [] 84 [.int .i64 0, .int .i64 0] [isV (.bool true), isV (.bool true), isV (.int .i64 (((mi : Nat) : Int))), isV (.bool true), isV (.bool true), isV (.bool true), isV (.bool false), isV (.bool false)] (by rfl) alloc_Z ?_ ?_
                                    · intro qi qh qA aa wx hb hs hd
                                      match qi, qh, qA with
                                      | 0, _, _ => exact .inl ⟨rfl, pure_b (bool_eq HHV.out) (op_mv rfl (hs 6 rfl))⟩
                                      | 1, _, _ => exact .inl ⟨rfl, op_mv rfl (hd 0 rfl)⟩
                                      | 2, _, _ => exact .inl ⟨⟨rfl, .inl (hd 1 rfl)⟩, op_mv rfl (hs 8 rfl)⟩
                                      | 3, _, _ => exact .inl ⟨⟨rfl, .inl (hd 1 rfl)⟩, pure_b (bool_eq (decide_eq_true (by omega))) (⟨_, op_eqlI rfl (hd 2 rfl) rfl, rfl⟩)⟩
                                      | 4, _, _ => exact .inl ⟨rfl, ⟨_, op_pickT rfl (hd 1 rfl) (hd 3 rfl), rfl⟩⟩
                                      | 5, _, _ => exact .inl ⟨rfl, op_mv rfl (hd 4 rfl)⟩
                                      | 6, _, _ => exact .inl ⟨⟨rfl, .inl (hd 5 rfl)⟩, pure_b (bool_eq HCV.out) (op_mv rfl (hs 9 rfl))⟩
                                      | 7, _, _ => exact .inl ⟨rfl, ⟨_, op_pickT rfl (hd 5 rfl) (hd 6 rfl), rfl⟩⟩
                                      | qi + 8, h, _ => omega
                                    · intro vs X5 hb hv hal hne
                                      have HL0 := Hd.mk (HE.out.lt)
                                      have HBW := HB
                                      replace HB := Hd.mk (bel_then HB.out hb)
                                      replace HE : Hd (Env X5 [⟨w.heap.size, 27, [.int .i64 Wd, .int .i64 Ht, .slice (some ad) xs.length k]⟩, ⟨g24, 27, [.int .i64 Wd, .int .i64 Ht, .slice (some ad) xs.length k]⟩, ⟨g4, 104, [.int .i64 Wd, .int .i64 Ht, .slice (some ad) xs.length k, .int .i64 n, .func (.func 82) #[] #[.pointer (some ⟨g24, 0, none⟩)]]⟩]) := ⟨HE.out.to hb⟩
                                      have HLS := HL0
                                      have e82 : vs 82 = .bool false := hv 7 (by decide) rfl
                                      simp only [putAll, List.foldl_cons, List.foldl_nil, Act.put, List.setIfInBounds_toArray, List.set_cons_succ, List.set_cons_zero, List.drop_succ_cons, List.drop_zero, e82]
                                      generalize vs 75 = s75
                                      generalize vs 76 = s76
                                      generalize vs 77 = s77
                                      generalize vs 78 = s78
                                      generalize vs 79 = s79
                                      generalize vs 80 = s80
                                      generalize vs 81 = s81
                                      clear hv hal hne hb HL0 HBW HLS e82
                                      go_upto_region 28 with fail
                                      refine wp_region_vd 1 [84] [0] [] 84 [.int .i64 0, .int .i64 0] [isV (.bool true)] (by rfl) alloc_Z ?_ ?_
                                      · intro qi qh qA aa wx hb hs hd
                                        match qi, qh, qA with
                                        | 0, _, _ => exact .inl ⟨rfl, pure_b (bool_eq HHV.out) (op_mv rfl (hs 6 rfl))⟩
                                        | qi + 1, h, _ => omega
                                      · intro vs X6 hb hv hal hne
                                        have HL0 := Hd.mk (HE.out.lt)
                                        have HBW := HB
                                        replace HB := Hd.mk (bel_then HB.out hb)
                                        replace HE : Hd (Env X6 [⟨w.heap.size, 27, [.int .i64 Wd, .int .i64 Ht, .slice (some ad) xs.length k]⟩, ⟨g24, 27, [.int .i64 Wd, .int .i64 Ht, .slice (some ad) xs.length k]⟩, ⟨g4, 104, [.int .i64 Wd, .int .i64 Ht, .slice (some ad) xs.length k, .int .i64 n, .func (.func 82) #[] #[.pointer (some ⟨g24, 0, none⟩)]]⟩]) := ⟨HE.out.to hb⟩
                                        have HLS := HL0
                                        have e84 : vs 84 = .bool true := hv 0 (by decide) rfl
                                        simp only [putAll, List.foldl_cons, List.foldl_nil, Act.put, List.setIfInBounds_toArray, List.set_cons_succ, List.set_cons_zero, List.drop_succ_cons, List.drop_zero, e84]
                                        clear hv hal hne hb HL0 HBW HLS e84
                                        have hmi3 : mi < 3 := by have := HML.out HQV.out; omega
                                        go_upto_region 29 with fail
                                        refine wp_region_vd 3 [85, 86, 87] [0, 1] [] 84 [.int .i64 0, .int .i64 0] [isV (.agg #[.string { data := #[112, 103, 103] }, .string { data := #[112, 109, 103] }, .string { data := #[112, 109, 109] }]), isV (.int .i64 (((mi : Nat) : Int))), isV (knm (5 + mi))] (by rfl) alloc_Z ?_ ?_
                                        · intro qi qh qA aa wx hb hs hd
                                          match qi, qh, qA with
                                          | 0, _, _ => exact .inl ⟨rfl, ⟨_, op_bu3 rfl, rfl⟩⟩
                                          | 1, _, _ => exact .inl ⟨rfl, op_mv rfl (hs 8 rfl)⟩
                                          | 2, _, _ => exact .inl ⟨rfl, op_run rfl (op_idx3 hmi3 rfl (hd 0 rfl) (hd 1 rfl) _) rfl⟩
                                          | qi + 3, h, _ => omega
                                        · intro vs X7 hb hv hal hne
                                          have HL0 := Hd.mk (HE.out.lt)
                                          have HBW := HB
                                          replace HB := Hd.mk (bel_then HB.out hb)
                                          replace HE : Hd (Env X7 [⟨w.heap.size, 27, [.int .i64 Wd, .int .i64 Ht, .slice (some ad) xs.length k]⟩, ⟨g24, 27, [.int .i64 Wd, .int .i64 Ht, .slice (some ad) xs.length k]⟩, ⟨g4, 104, [.int .i64 Wd, .int .i64 Ht, .slice (some ad) xs.length k, .int .i64 n, .func (.func 82) #[] #[.pointer (some ⟨g24, 0, none⟩)]]⟩]) := ⟨HE.out.to hb⟩
                                          have HLS := HL0
                                          have e87 : vs 87 = knm (5 + mi) := hv 2 (by decide) rfl
                                          simp only [putAll, List.foldl_cons, List.foldl_nil, Act.put, List.setIfInBounds_toArray, List.set_cons_succ, List.set_cons_zero, List.drop_succ_cons, List.drop_zero, e87]
                                          generalize vs 85 = s85
                                          generalize vs 86 = s86
                                          clear hv hal hne hb HL0 HBW HLS e87
                                          go_wp2_with fail
                                          refine bodyPost_ret (v := .tuple #[knm (5 + mi), .int .i64 0]) (by simp [results, Try.results34, go_sem]) rfl ?_
                                          exact ⟨_, rfl, HB.out, _, _, rfl, by show _ = knm _; rw [HRES.out, show kindB q h fl mi c = 5 + mi from by unfold kindB; simp [HQV.out, HHV.out, h0, h1, HCV.out]], rfl⟩
                                · skip
                                  go_upto_region 26 with fail
                                  refine wp_region_vd 8 [75, 76, 77, 78, 79, 80, 81, 82] [0, 1, 2, 3, 4, 5, 7] [] 84 [.int .i64 0, .int .i64 0] [isV (.bool true), isV (.bool true), isV (.int .i64 (((mi : Nat) : Int))), isV (.bool false), isV (.bool false), isV (.bool false), isV undef, isV (.bool false)] (by rfl) alloc_Z ?_ ?_
                                  · intro qi qh qA aa wx hb hs hd
                                    match qi, qh, qA with
                                    | 0, _, _ => exact .inl ⟨rfl, pure_b (bool_eq HHV.out) (op_mv rfl (hs 6 rfl))⟩
                                    | 1, _, _ => exact .inl ⟨rfl, op_mv rfl (hd 0 rfl)⟩
                                    | 2, _, _ => exact .inl ⟨⟨rfl, .inl (hd 1 rfl)⟩, op_mv rfl (hs 8 rfl)⟩
                                    | 3, _, _ => exact .inl ⟨⟨rfl, .inl (hd 1 rfl)⟩, pure_b (bool_eq (decide_eq_false (by omega))) (⟨_, op_eqlI rfl (hd 2 rfl) rfl, rfl⟩)⟩
                                    | 4, _, _ => exact .inl ⟨rfl, ⟨_, op_pickT rfl (hd 1 rfl) (hd 3 rfl), rfl⟩⟩
                                    | 5, _, _ => exact .inl ⟨rfl, op_mv rfl (hd 4 rfl)⟩
                                    | 6, _, _ => exact .inr ⟨⟨rfl, .inl (hd 5 rfl)⟩, rfl⟩
                                    | 7, _, _ => exact .inl ⟨rfl, ⟨_, op_pickF rfl (hd 5 rfl) rfl, rfl⟩⟩
                                    | qi + 8, h, _ => omega
                                  · intro vs X5 hb hv hal hne
                                    have HL0 := Hd.mk (HE.out.lt)
                                    have HBW := HB
                                    replace HB := Hd.mk (bel_then HB.out hb)
                                    replace HE : Hd (Env X5 [⟨w.heap.size, 27, [.int .i64 Wd, .int .i64 Ht, .slice (some ad) xs.length k]⟩, ⟨g24, 27, [.int .i64 Wd, .int .i64 Ht, .slice (some ad) xs.length k]⟩, ⟨g4, 104, [.int .i64 Wd, .int .i64 Ht, .slice (some ad) xs.length k, .int .i64 n, .func (.func 82) #[] #[.pointer (some ⟨g24, 0, none⟩)]]⟩]) := ⟨HE.out.to hb⟩
                                    have HLS := HL0
                                    have e82 : vs 82 = .bool false := hv 7 (by decide) rfl
                                    simp only [putAll, List.foldl_cons, List.foldl_nil, Act.put, List.setIfInBounds_toArray, List.set_cons_succ, List.set_cons_zero, List.drop_succ_cons, List.drop_zero, e82]
                                    generalize vs 75 = s75
                                    generalize vs 76 = s76
                                    generalize vs 77 = s77
                                    generalize vs 78 = s78
                                    generalize vs 79 = s79
                                    generalize vs 80 = s80
                                    generalize vs 81 = s81
                                    clear hv hal hne hb HL0 HBW HLS e82
                                    go_upto_region 28 with fail
                                    refine wp_region_vd 1 [84] [0] [] 84 [.int .i64 0, .int .i64 0] [isV (.bool true)] (by rfl) alloc_Z ?_ ?_
                                    · intro qi qh qA aa wx hb hs hd
                                      match qi, qh, qA with
                                      | 0, _, _ => exact .inl ⟨rfl, pure_b (bool_eq HHV.out) (op_mv rfl (hs 6 rfl))⟩
                                      | qi + 1, h, _ => omega
                                    · intro vs X6 hb hv hal hne
                                      have HL0 := Hd.mk (HE.out.lt)
                                      have HBW := HB
                                      replace HB := Hd.mk (bel_then HB.out hb)
                                      replace HE : Hd (Env X6 [⟨w.heap.size, 27, [.int .i64 Wd, .int .i64 Ht, .slice (some ad) xs.length k]⟩, ⟨g24, 27, [.int .i64 Wd, .int .i64 Ht, .slice (some ad) xs.length k]⟩, ⟨g4, 104, [.int .i64 Wd, .int .i64 Ht, .slice (some ad) xs.length k, .int .i64 n, .func (.func 82) #[] #[.pointer (some ⟨g24, 0, none⟩)]]⟩]) := ⟨HE.out.to hb⟩
                                      have HLS := HL0
                                      have e84 : vs 84 = .bool true := hv 0 (by decide) rfl
                                      simp only [putAll, List.foldl_cons, List.foldl_nil, Act.put, List.setIfInBounds_toArray, List.set_cons_succ, List.set_cons_zero, List.drop_succ_cons, List.drop_zero, e84]
                                      clear hv hal hne hb HL0 HBW HLS e84
                                      have hmi3 : mi < 3 := by have := HML.out HQV.out; omega
                                      go_upto_region 29 with fail
                                      refine wp_region_vd 3 [85, 86, 87] [0, 1] [] 84 [.int .i64 0, .int .i64 0] [isV (.agg #[.string { data := #[112, 103, 103] }, .string { data := #[112, 109, 103] }, .string { data := #[112, 109, 109] }]), isV (.int .i64 (((mi : Nat) : Int))), isV (knm (5 + mi))] (by rfl) alloc_Z ?_ ?_
                                      · intro qi qh qA aa wx hb hs hd
                                        match qi, qh, qA with
                                        | 0, _, _ => exact .inl ⟨rfl, ⟨_, op_bu3 rfl, rfl⟩⟩
                                        | 1, _, _ => exact .inl ⟨rfl, op_mv rfl (hs 8 rfl)⟩
                                        | 2, _, _ => exact .inl ⟨rfl, op_run rfl (op_idx3 hmi3 rfl (hd 0 rfl) (hd 1 rfl) _) rfl⟩
                                        | qi + 3, h, _ => omega
                                      · intro vs X7 hb hv hal hne
                                        have HL0 := Hd.mk (HE.out.lt)
                                        have HBW := HB
                                        replace HB := Hd.mk (bel_then HB.out hb)
                                        replace HE : Hd (Env X7 [⟨w.heap.size, 27, [.int .i64 Wd, .int .i64 Ht, .slice (some ad) xs.length k]⟩, ⟨g24, 27, [.int .i64 Wd, .int .i64 Ht, .slice (some ad) xs.length k]⟩, ⟨g4, 104, [.int .i64 Wd, .int .i64 Ht, .slice (some ad) xs.length k, .int .i64 n, .func (.func 82) #[] #[.pointer (some ⟨g24, 0, none⟩)]]⟩]) := ⟨HE.out.to hb⟩
                                        have HLS := HL0
                                        have e87 : vs 87 = knm (5 + mi) := hv 2 (by decide) rfl
                                        simp only [putAll, List.foldl_cons, List.foldl_nil, Act.put, List.setIfInBounds_toArray, List.set_cons_succ, List.set_cons_zero, List.drop_succ_cons, List.drop_zero, e87]
                                        generalize vs 85 = s85
                                        generalize vs 86 = s86
                                        clear hv hal hne hb HL0 HBW HLS e87
                                        go_wp2_with fail
                                        refine bodyPost_ret (v := .tuple #[knm (5 + mi), .int .i64 0]) (by simp [results, Try.results34, go_sem]) rfl ?_
                                        exact ⟨_, rfl, HB.out, _, _, rfl, by show _ = knm _; rw [HRES.out, show kindB q h fl mi c = 5 + mi from by unfold kindB; simp [HQV.out, HHV.out, h0, h1]], rfl⟩
                          · have HHV := Hd.mk hb0
                            clear hb0
                            go_upto_region 24 with fail
                            refine wp_region_vd 5 [69, 70, 71, 72, 73] [0, 1, 4] [] 84 [.int .i64 0, .int .i64 0] [isV (.bool false), isV (.bool false), isV undef, isV undef, isV (.bool false)] (by rfl) alloc_Z ?_ ?_
                            · intro qi qh qA aa wx hb hs hd
                              match qi, qh, qA with
                              | 0, _, _ => exact .inl ⟨rfl, pure_b (bool_eq HHV.out) (op_mv rfl (hs 6 rfl))⟩
                              | 1, _, _ => exact .inl ⟨rfl, op_mv rfl (hd 0 rfl)⟩
                              | 2, _, _ => exact .inr ⟨⟨rfl, .inl (hd 1 rfl)⟩, rfl⟩
                              | 3, _, _ => exact .inr ⟨⟨rfl, .inl (hd 1 rfl)⟩, rfl⟩
                              | 4, _, _ => exact .inl ⟨rfl, ⟨_, op_pickF rfl (hd 1 rfl) rfl, rfl⟩⟩
                              | qi + 5, h, _ => omega
                            · intro vs X4 hb hv hal hne
                              have HL0 := Hd.mk (HE.out.lt)
                              have HBW := HB
                              replace HB := Hd.mk (bel_then HB.out hb)
                              replace HE : Hd (Env X4 [⟨w.heap.size, 27, [.int .i64 Wd, .int .i64 Ht, .slice (some ad) xs.length k]⟩, ⟨g24, 27, [.int .i64 Wd, .int .i64 Ht, .slice (some ad) xs.length k]⟩, ⟨g4, 104, [.int .i64 Wd, .int .i64 Ht, .slice (some ad) xs.length k, .int .i64 n, .func (.func 82) #[] #[.pointer (some ⟨g24, 0, none⟩)]]⟩]) := ⟨HE.out.to hb⟩
                              have HLS := HL0
                              have e73 : vs 73 = .bool false := hv 4 (by decide) rfl
                              simp only [putAll, List.foldl_cons, List.foldl_nil, Act.put, List.setIfInBounds_toArray, List.set_cons_succ, List.set_cons_zero, List.drop_succ_cons, List.drop_zero, e73]
                              generalize vs 69 = s69
                              generalize vs 70 = s70
                              generalize vs 71 = s71
                              generalize vs 72 = s72
                              clear hv hal hne hb HL0 HBW HLS e73
                              go_upto_region 26 with fail
                              refine wp_region_vd 8 [75, 76, 77, 78, 79, 80, 81, 82] [0, 1, 4, 5, 7] [] 84 [.int .i64 0, .int .i64 0] [isV (.bool false), isV (.bool false), isV undef, isV undef, isV (.bool false), isV (.bool false), isV undef, isV (.bool false)] (by rfl) alloc_Z ?_ ?_
                              · intro qi qh qA aa wx hb hs hd
                                match qi, qh, qA with
                                | 0, _, _ => exact .inl ⟨rfl, pure_b (bool_eq HHV.out) (op_mv rfl (hs 6 rfl))⟩
                                | 1, _, _ => exact .inl ⟨rfl, op_mv rfl (hd 0 rfl)⟩
                                | 2, _, _ => exact .inr ⟨⟨rfl, .inl (hd 1 rfl)⟩, rfl⟩
                                | 3, _, _ => exact .inr ⟨⟨rfl, .inl (hd 1 rfl)⟩, rfl⟩
                                | 4, _, _ => exact .inl ⟨rfl, ⟨_, op_pickF rfl (hd 1 rfl) rfl, rfl⟩⟩
                                | 5, _, _ => exact .inl ⟨rfl, op_mv rfl (hd 4 rfl)⟩
                                | 6, _, _ => exact .inr ⟨⟨rfl, .inl (hd 5 rfl)⟩, rfl⟩
                                | 7, _, _ => exact .inl ⟨rfl, ⟨_, op_pickF rfl (hd 5 rfl) rfl, rfl⟩⟩
                                | qi + 8, h, _ => omega
                              · intro vs X5 hb hv hal hne
                                have HL0 := Hd.mk (HE.out.lt)
                                have HBW := HB
                                replace HB := Hd.mk (bel_then HB.out hb)
                                replace HE : Hd (Env X5 [⟨w.heap.size, 27, [.int .i64 Wd, .int .i64 Ht, .slice (some ad) xs.length k]⟩, ⟨g24, 27, [.int .i64 Wd, .int .i64 Ht, .slice (some ad) xs.length k]⟩, ⟨g4, 104, [.int .i64 Wd, .int .i64 Ht, .slice (some ad) xs.length k, .int .i64 n, .func (.func 82) #[] #[.pointer (some ⟨g24, 0, none⟩)]]⟩]) := ⟨HE.out.to hb⟩
                                have HLS := HL0
                                have e82 : vs 82 = .bool false := hv 7 (by decide) rfl
                                simp only [putAll, List.foldl_cons, List.foldl_nil, Act.put, List.setIfInBounds_toArray, List.set_cons_succ, List.set_cons_zero, List.drop_succ_cons, List.drop_zero, e82]
                                generalize vs 75 = s75
                                generalize vs 76 = s76
                                generalize vs 77 = s77
                                generalize vs 78 = s78
                                generalize vs 79 = s79
                                generalize vs 80 = s80
                                generalize vs 81 = s81
                                clear hv hal hne hb HL0 HBW HLS e82
                                go_upto_region 28 with fail
                                refine wp_region_vd 1 [84] [0] [] 84 [.int .i64 0, .int .i64 0] [isV (.bool false)] (by rfl) alloc_Z ?_ ?_
                                · intro qi qh qA aa wx hb hs hd
                                  match qi, qh, qA with
                                  | 0, _, _ => exact .inl ⟨rfl, pure_b (bool_eq HHV.out) (op_mv rfl (hs 6 rfl))⟩
                                  | qi + 1, h, _ => omega
                                · intro vs X6 hb hv hal hne
                                  have HL0 := Hd.mk (HE.out.lt)
                                  have HBW := HB
                                  replace HB := Hd.mk (bel_then HB.out hb)
                                  replace HE : Hd (Env X6 [⟨w.heap.size, 27, [.int .i64 Wd, .int .i64 Ht, .slice (some ad) xs.length k]⟩, ⟨g24, 27, [.int .i64 Wd, .int .i64 Ht, .slice (some ad) xs.length k]⟩, ⟨g4, 104, [.int .i64 Wd, .int .i64 Ht, .slice (some ad) xs.length k, .int .i64 n, .func (.func 82) #[] #[.pointer (some ⟨g24, 0, none⟩)]]⟩]) := ⟨HE.out.to hb⟩
                                  have HLS := HL0
                                  have e84 : vs 84 = .bool false := hv 0 (by decide) rfl
                                  simp only [putAll, List.foldl_cons, List.foldl_nil, Act.put, List.setIfInBounds_toArray, List.set_cons_succ, List.set_cons_zero, List.drop_succ_cons, List.drop_zero, e84]
                                  clear hv hal hne hb HL0 HBW HLS e84
                                  by_cases h0 : fl = 0
                                  · skip
                                    go_upto_region 30 with fail
                                    refine wp_region_vd 2 [89, 90] [0, 1] [] 84 [.int .i64 0, .int .i64 0] [isV (.int .i64 (((fl : Nat) : Int))), isV (.bool true)] (by rfl) alloc_Z ?_ ?_
                                    · intro qi qh qA aa wx hb hs hd
                                      match qi, qh, qA with
                                      | 0, _, _ => exact .inl ⟨rfl, op_mv rfl (hs 7 rfl)⟩
                                      | 1, _, _ => exact .inl ⟨rfl, pure_b (bool_eq (decide_eq_true (by omega))) (⟨_, op_eqlI rfl (hd 0 rfl) rfl, rfl⟩)⟩
                                      | qi + 2, h, _ => omega
                                    · intro vs X7 hb hv hal hne
                                      have HL0 := Hd.mk (HE.out.lt)
                                      have HBW := HB
                                      replace HB := Hd.mk (bel_then HB.out hb)
                                      replace HE : Hd (Env X7 [⟨w.heap.size, 27, [.int .i64 Wd, .int .i64 Ht, .slice (some ad) xs.length k]⟩, ⟨g24, 27, [.int .i64 Wd, .int .i64 Ht, .slice (some ad) xs.length k]⟩, ⟨g4, 104, [.int .i64 Wd, .int .i64 Ht, .slice (some ad) xs.length k, .int .i64 n, .func (.func 82) #[] #[.pointer (some ⟨g24, 0, none⟩)]]⟩]) := ⟨HE.out.to hb⟩
                                      have HLS := HL0
                                      have e90 : vs 90 = .bool true := hv 1 (by decide) rfl
                                      simp only [putAll, List.foldl_cons, List.foldl_nil, Act.put, List.setIfInBounds_toArray, List.set_cons_succ, List.set_cons_zero, List.drop_succ_cons, List.drop_zero, e90]
                                      generalize vs 89 = s89
                                      clear hv hal hne hb HL0 HBW HLS e90
                                      go_upto_region 31 with fail
                                      refine wp_region_vd 0 [] [] [] 84 [.int .i64 0, .int .i64 0] [] (by rfl) alloc_Z ?_ ?_
                                      · intro qi qh qA aa wx hb hs hd
                                        match qi, qh, qA with
                                        | qi + 0, h, _ => omega
                                      · intro vs X8 hb hv hal hne
                                        have HL0 := Hd.mk (HE.out.lt)
                                        have HBW := HB
                                        replace HB := Hd.mk (bel_then HB.out hb)
                                        replace HE : Hd (Env X8 [⟨w.heap.size, 27, [.int .i64 Wd, .int .i64 Ht, .slice (some ad) xs.length k]⟩, ⟨g24, 27, [.int .i64 Wd, .int .i64 Ht, .slice (some ad) xs.length k]⟩, ⟨g4, 104, [.int .i64 Wd, .int .i64 Ht, .slice (some ad) xs.length k, .int .i64 n, .func (.func 82) #[] #[.pointer (some ⟨g24, 0, none⟩)]]⟩]) := ⟨HE.out.to hb⟩
                                        have HLS := HL0
                                        simp only [putAll, List.foldl_cons, List.foldl_nil, Act.put, List.setIfInBounds_toArray, List.set_cons_succ, List.set_cons_zero, List.drop_succ_cons, List.drop_zero]
                                        clear hv hal hne hb HL0 HBW HLS
                                        go_wp2_with fail
                                        refine bodyPost_ret (v := .tuple #[.string { data := #[112, 49] }, .int .i64 0]) (by simp [results, Try.results34, go_sem]) rfl ?_
                                        exact ⟨_, rfl, HB.out, _, _, rfl, by show _ = knm _; rw [HRES.out, show kindB q h fl mi c = 8 from by unfold kindB; simp [HQV.out, HHV.out, h0]]; rfl, rfl⟩
                                  · skip
                                    go_upto_region 30 with fail
                                    refine wp_region_vd 2 [89, 90] [0, 1] [] 84 [.int .i64 0, .int .i64 0] [isV (.int .i64 (((fl : Nat) : Int))), isV (.bool false)] (by rfl) alloc_Z ?_ ?_
                                    · intro qi qh qA aa wx hb hs hd
                                      match qi, qh, qA with
                                      | 0, _, _ => exact .inl ⟨rfl, op_mv rfl (hs 7 rfl)⟩
                                      | 1, _, _ => exact .inl ⟨rfl, pure_b (bool_eq (decide_eq_false (by omega))) (⟨_, op_eqlI rfl (hd 0 rfl) rfl, rfl⟩)⟩
                                      | qi + 2, h, _ => omega
                                    · intro vs X7 hb hv hal hne
                                      have HL0 := Hd.mk (HE.out.lt)
                                      have HBW := HB
                                      replace HB := Hd.mk (bel_then HB.out hb)
                                      replace HE : Hd (Env X7 [⟨w.heap.size, 27, [.int .i64 Wd, .int .i64 Ht, .slice (some ad) xs.length k]⟩, ⟨g24, 27, [.int .i64 Wd, .int .i64 Ht, .slice (some ad) xs.length k]⟩, ⟨g4, 104, [.int .i64 Wd, .int .i64 Ht, .slice (some ad) xs.length k, .int .i64 n, .func (.func 82) #[] #[.pointer (some ⟨g24, 0, none⟩)]]⟩]) := ⟨HE.out.to hb⟩
                                      have HLS := HL0
                                      have e90 : vs 90 = .bool false := hv 1 (by decide) rfl
                                      simp only [putAll, List.foldl_cons, List.foldl_nil, Act.put, List.setIfInBounds_toArray, List.set_cons_succ, List.set_cons_zero, List.drop_succ_cons, List.drop_zero, e90]
                                      generalize vs 89 = s89
                                      clear hv hal hne hb HL0 HBW HLS e90
                                      by_cases h1 : mi = 0
                                      · skip
                                        go_upto_region 32 with fail
                                        refine wp_region_vd 2 [92, 93] [0, 1] [] 84 [.int .i64 0, .int .i64 0] [isV (.int .i64 (((mi : Nat) : Int))), isV (.bool true)] (by rfl) alloc_Z ?_ ?_
                                        · intro qi qh qA aa wx hb hs hd
                                          match qi, qh, qA with
                                          | 0, _, _ => exact .inl ⟨rfl, op_mv rfl (hs 8 rfl)⟩
                                          | 1, _, _ => exact .inl ⟨rfl, pure_b (bool_eq (decide_eq_true (by omega))) (⟨_, op_eqlI rfl (hd 0 rfl) rfl, rfl⟩)⟩
                                          | qi + 2, h, _ => omega
                                        · intro vs X8 hb hv hal hne
                                          have HL0 := Hd.mk (HE.out.lt)
                                          have HBW := HB
                                          replace HB := Hd.mk (bel_then HB.out hb)
                                          replace HE : Hd (Env X8 [⟨w.heap.size, 27, [.int .i64 Wd, .int .i64 Ht, .slice (some ad) xs.length k]⟩, ⟨g24, 27, [.int .i64 Wd, .int .i64 Ht, .slice (some ad) xs.length k]⟩, ⟨g4, 104, [.int .i64 Wd, .int .i64 Ht, .slice (some ad) xs.length k, .int .i64 n, .func (.func 82) #[] #[.pointer (some ⟨g24, 0, none⟩)]]⟩]) := ⟨HE.out.to hb⟩
                                          have HLS := HL0
                                          have e93 : vs 93 = .bool true := hv 1 (by decide) rfl
                                          simp only [putAll, List.foldl_cons, List.foldl_nil, Act.put, List.setIfInBounds_toArray, List.set_cons_succ, List.set_cons_zero, List.drop_succ_cons, List.drop_zero, e93]
                                          generalize vs 92 = s92
                                          clear hv hal hne hb HL0 HBW HLS e93
                                          go_upto_region 33 with fail
                                          refine wp_region_vd 0 [] [] [] 84 [.int .i64 0, .int .i64 0] [] (by rfl) alloc_Z ?_ ?_
                                          · intro qi qh qA aa wx hb hs hd
                                            match qi, qh, qA with
                                            | qi + 0, h, _ => omega
                                          · intro vs X9 hb hv hal hne
                                            have HL0 := Hd.mk (HE.out.lt)
                                            have HBW := HB
                                            replace HB := Hd.mk (bel_then HB.out hb)
                                            replace HE : Hd (Env X9 [⟨w.heap.size, 27, [.int .i64 Wd, .int .i64 Ht, .slice (some ad) xs.length k]⟩, ⟨g24, 27, [.int .i64 Wd, .int .i64 Ht, .slice (some ad) xs.length k]⟩, ⟨g4, 104, [.int .i64 Wd, .int .i64 Ht, .slice (some ad) xs.length k, .int .i64 n, .func (.func 82) #[] #[.pointer (some ⟨g24, 0, none⟩)]]⟩]) := ⟨HE.out.to hb⟩
                                            have HLS := HL0
                                            simp only [putAll, List.foldl_cons, List.foldl_nil, Act.put, List.setIfInBounds_toArray, List.set_cons_succ, List.set_cons_zero, List.drop_succ_cons, List.drop_zero]
                                            clear hv hal hne hb HL0 HBW HLS
                                            go_wp2_with fail
                                            refine bodyPost_ret (v := .tuple #[.string { data := #[112, 103] }, .int .i64 0]) (by simp [results, Try.results34, go_sem]) rfl ?_
                                            exact ⟨_, rfl, HB.out, _, _, rfl, by show _ = knm _; rw [HRES.out, show kindB q h fl mi c = 9 from by unfold kindB; simp [HQV.out, HHV.out, h0, h1]]; rfl, rfl⟩
                                      · skip
                                        go_upto_region 32 with fail
                                        refine wp_region_vd 2 [92, 93] [0, 1] [] 84 [.int .i64 0, .int .i64 0] [isV (.int .i64 (((mi : Nat) : Int))), isV (.bool false)] (by rfl) alloc_Z ?_ ?_
                                        · intro qi qh qA aa wx hb hs hd
                                          match qi, qh, qA with
                                          | 0, _, _ => exact .inl ⟨rfl, op_mv rfl (hs 8 rfl)⟩
                                          | 1, _, _ => exact .inl ⟨rfl, pure_b (bool_eq (decide_eq_false (by omega))) (⟨_, op_eqlI rfl (hd 0 rfl) rfl, rfl⟩)⟩
                                          | qi + 2, h, _ => omega
                                        · intro vs X8 hb hv hal hne
                                          have HL0 := Hd.mk (HE.out.lt)
                                          have HBW := HB
                                          replace HB := Hd.mk (bel_then HB.out hb)
                                          replace HE : Hd (Env X8 [⟨w.heap.size, 27, [.int .i64 Wd, .int .i64 Ht, .slice (some ad) xs.length k]⟩, ⟨g24, 27, [.int .i64 Wd, .int .i64 Ht, .slice (some ad) xs.length k]⟩, ⟨g4, 104, [.int .i64 Wd, .int .i64 Ht, .slice (some ad) xs.length k, .int .i64 n, .func (.func 82) #[] #[.pointer (some ⟨g24, 0, none⟩)]]⟩]) := ⟨HE.out.to hb⟩
                                          have HLS := HL0
                                          have e93 : vs 93 = .bool false := hv 1 (by decide) rfl
                                          simp only [putAll, List.foldl_cons, List.foldl_nil, Act.put, List.setIfInBounds_toArray, List.set_cons_succ, List.set_cons_zero, List.drop_succ_cons, List.drop_zero, e93]
                                          generalize vs 92 = s92
                                          clear hv hal hne hb HL0 HBW HLS e93
                                          rcases (show c = true ∨ c = false by cases c <;> simp) with hb0 | hb0
                                          · have HCV := Hd.mk hb0
                                            clear hb0
                                            go_upto_region 34 with fail
                                            refine wp_region_vd 1 [95] [0] [] 84 [.int .i64 0, .int .i64 0] [isV (.bool true)] (by rfl) alloc_Z ?_ ?_
                                            · intro qi qh qA aa wx hb hs hd
                                              match qi, qh, qA with
                                              | 0, _, _ => exact .inl ⟨rfl, pure_b (bool_eq HCV.out) (op_mv rfl (hs 9 rfl))⟩
                                              | qi + 1, h, _ => omega
                                            · intro vs X9 hb hv hal hne
                                              have HL0 := Hd.mk (HE.out.lt)
                                              have HBW := HB
                                              replace HB := Hd.mk (bel_then HB.out hb)
                                              replace HE : Hd (Env X9 [⟨w.heap.size, 27, [.int .i64 Wd, .int .i64 Ht, .slice (some ad) xs.length k]⟩, ⟨g24, 27, [.int .i64 Wd, .int .i64 Ht, .slice (some ad) xs.length k]⟩, ⟨g4, 104, [.int .i64 Wd, .int .i64 Ht, .slice (some ad) xs.length k, .int .i64 n, .func (.func 82) #[] #[.pointer (some ⟨g24, 0, none⟩)]]⟩]) := ⟨HE.out.to hb⟩
                                              have HLS := HL0
                                              have e95 : vs 95 = .bool true := hv 0 (by decide) rfl
                                              simp only [putAll, List.foldl_cons, List.foldl_nil, Act.put, List.setIfInBounds_toArray, List.set_cons_succ, List.set_cons_zero, List.drop_succ_cons, List.drop_zero, e95]
                                              clear hv hal hne hb HL0 HBW HLS e95
                                              go_upto_region 35 with fail
                                              refine wp_region_vd 0 [] [] [] 84 [.int .i64 0, .int .i64 0] [] (by rfl) alloc_Z ?_ ?_
                                              · intro qi qh qA aa wx hb hs hd
                                                match qi, qh, qA with
                                                | qi + 0, h, _ => omega
                                              · intro vs X10 hb hv hal hne
                                                have HL0 := Hd.mk (HE.out.lt)
                                                have HBW := HB
                                                replace HB := Hd.mk (bel_then HB.out hb)
                                                replace HE : Hd (Env X10 [⟨w.heap.size, 27, [.int .i64 Wd, .int .i64 Ht, .slice (some ad) xs.length k]⟩, ⟨g24, 27, [.int .i64 Wd, .int .i64 Ht, .slice (some ad) xs.length k]⟩, ⟨g4, 104, [.int .i64 Wd, .int .i64 Ht, .slice (some ad) xs.length k, .int .i64 n, .func (.func 82) #[] #[.pointer (some ⟨g24, 0, none⟩)]]⟩]) := ⟨HE.out.to hb⟩
                                                have HLS := HL0
                                                simp only [putAll, List.foldl_cons, List.foldl_nil, Act.put, List.setIfInBounds_toArray, List.set_cons_succ, List.set_cons_zero, List.drop_succ_cons, List.drop_zero]
                                                clear hv hal hne hb HL0 HBW HLS
                                                go_wp2_with fail
                                                refine bodyPost_ret (v := .tuple #[.string { data := #[99, 109] }, .int .i64 0]) (by simp [results, Try.results34, go_sem]) rfl ?_
                                                exact ⟨_, rfl, HB.out, _, _, rfl, by show _ = knm _; rw [HRES.out, show kindB q h fl mi c = 10 from by unfold kindB; simp [HQV.out, HHV.out, h0, h1, HCV.out]]; rfl, rfl⟩
                                          · have HCV := Hd.mk hb0
                                            clear hb0
                                            go_upto_region 34 with fail
                                            refine wp_region_vd 1 [95] [0] [] 84 [.int .i64 0, .int .i64 0] [isV (.bool false)] (by rfl) alloc_Z ?_ ?_
                                            · intro qi qh qA aa wx hb hs hd
                                              match qi, qh, qA with
                                              | 0, _, _ => exact .inl ⟨rfl, pure_b (bool_eq HCV.out) (op_mv rfl (hs 9 rfl))⟩
                                              | qi + 1, h, _ => omega
                                            · intro vs X9 hb hv hal hne
                                              have HL0 := Hd.mk (HE.out.lt)
                                              have HBW := HB
                                              replace HB := Hd.mk (bel_then HB.out hb)
                                              replace HE : Hd (Env X9 [⟨w.heap.size, 27, [.int .i64 Wd, .int .i64 Ht, .slice (some ad) xs.length k]⟩, ⟨g24, 27, [.int .i64 Wd, .int .i64 Ht, .slice (some ad) xs.length k]⟩, ⟨g4, 104, [.int .i64 Wd, .int .i64 Ht, .slice (some ad) xs.length k, .int .i64 n, .func (.func 82) #[] #[.pointer (some ⟨g24, 0, none⟩)]]⟩]) := ⟨HE.out.to hb⟩
                                              have HLS := HL0
                                              have e95 : vs 95 = .bool false := hv 0 (by decide) rfl
                                              simp only [putAll, List.foldl_cons, List.foldl_nil, Act.put, List.setIfInBounds_toArray, List.set_cons_succ, List.set_cons_zero, List.drop_succ_cons, List.drop_zero, e95]
                                              clear hv hal hne hb HL0 HBW HLS e95
                                              go_upto_region 36 with fail
                                              refine wp_region_vd 0 [] [] [] 84 [.int .i64 0, .int .i64 0] [] (by rfl) alloc_Z ?_ ?_
                                              · intro qi qh qA aa wx hb hs hd
                                                match qi, qh, qA with
                                                | qi + 0, h, _ => omega
                                              · intro vs X10 hb hv hal hne
                                                have HL0 := Hd.mk (HE.out.lt)
                                                have HBW := HB
                                                replace HB := Hd.mk (bel_then HB.out hb)
                                                replace HE : Hd (Env X10 [⟨w.heap.size, 27, [.int .i64 Wd, .int .i64 Ht, .slice (some ad) xs.length k]⟩, ⟨g24, 27, [.int .i64 Wd, .int .i64 Ht, .slice (some ad) xs.length k]⟩, ⟨g4, 104, [.int .i64 Wd, .int .i64 Ht, .slice (some ad) xs.length k, .int .i64 n, .func (.func 82) #[] #[.pointer (some ⟨g24, 0, none⟩)]]⟩]) := ⟨HE.out.to hb⟩
                                                have HLS := HL0
                                                simp only [putAll, List.foldl_cons, List.foldl_nil, Act.put, List.setIfInBounds_toArray, List.set_cons_succ, List.set_cons_zero, List.drop_succ_cons, List.drop_zero]
                                                clear hv hal hne hb HL0 HBW HLS
                                                go_wp2_with fail
                                                refine bodyPost_ret (v := .tuple #[.string { data := #[112, 109] }, .int .i64 0]) (by simp [results, Try.results34, go_sem]) rfl ?_
                                                exact ⟨_, rfl, HB.out, _, _, rfl, by show _ = knm _; rw [HRES.out, show kindB q h fl mi c = 11 from by unfold kindB; simp [HQV.out, HHV.out, h0, h1, HCV.out]]; rfl, rfl⟩
set_option maxRecDepth 100000 in
set_option maxHeartbeats 1000000 in
theorem Kind_arg (Wd Ht : Int) (A : Option Addr) (k : Nat) (xs : List Int) (w : World) (hri : RI w A xs) (hv : validB Wd Ht xs = false) :
    Calls Try.prog 34 #[.agg #[.int .i64 Wd, .int .i64 Ht, .slice A xs.length k]] w (Got w (isP (isV (.string { data := #[] })) (isV (.int .i64 2))).p) := by
  have HRI := Hd.mk hri
  have HV := Hd.mk hv
  clear hri hv
  go_enter Try.func34, Try.ntmps34
  go_upto_region 1 with fail
  obtain ⟨W0, hW0⟩ : ∃ W : World, W = w.alloc (.cells #[.int .i64 Wd, .int .i64 Ht, .slice A xs.length k] 27) := ⟨_, rfl⟩
  rw [← hW0]
  obtain ⟨he, hb⟩ := env_one hW0
  have HE := Hd.mk he
  have HB := Hd.mk hb
  clear he hb hW0
  refine wp_region_vd 3 [13, 14, 15] [2] [] 84 [.int .i64 0, .int .i64 0] [isV (.agg #[.int .i64 Wd, .int .i64 Ht, .slice A xs.length k]), isV (.bool false), isV (.bool true)] (by rfl) alloc_Z ?_ ?_
  · intro qi qh qA aa wx hb hs hd
    match qi, qh, qA with
    | 0, _, _ => exact .inl ⟨rfl, op_ldT rfl rfl (hs 1 rfl) ((HE.out.to hb).get 0 rfl)⟩
    | 1, _, _ => exact .inl ⟨rfl, wp_b (bool_eq HV.out) (op_call1 rfl rfl Try.call16 (by rw [(show aa.eval (.tmp 13) = .agg #[.int .i64 Wd, .int .i64 Ht, .slice A xs.length k] from (hd 0 rfl))]; exact Valid_got Wd Ht A k xs _ (HRI.out.to (bel_then HB.out hb))))⟩
    | 2, _, _ => exact .inl ⟨rfl, ⟨_, op_not rfl (hd 1 rfl), rfl⟩⟩
    | qi + 3, h, _ => omega
  · intro vs X1 hb hv hal hne
    have HL0 := Hd.mk (HE.out.lt)
    have HBW := HB
    replace HB := Hd.mk (bel_then HB.out hb)
    replace HE : Hd (Env X1 [⟨w.heap.size, 27, [.int .i64 Wd, .int .i64 Ht, .slice A xs.length k]⟩]) := ⟨HE.out.to hb⟩
    have HLS := HL0
    have e15 : vs 15 = .bool true := hv 2 (by decide) rfl
    simp only [putAll, List.foldl_cons, List.foldl_nil, Act.put, List.setIfInBounds_toArray, List.set_cons_succ, List.set_cons_zero, List.drop_succ_cons, List.drop_zero, e15]
    generalize vs 13 = s13
    generalize vs 14 = s14
    clear hv hal hne hb HL0 HBW HLS e15
    go_upto_region 2 with fail
    refine wp_region_vd 0 [] [] [] 84 [.int .i64 0, .int .i64 0] [] (by rfl) alloc_Z ?_ ?_
    · intro qi qh qA aa wx hb hs hd
      match qi, qh, qA with
      | qi + 0, h, _ => omega
    · intro vs X2 hb hv hal hne
      have HL0 := Hd.mk (HE.out.lt)
      have HBW := HB
      replace HB := Hd.mk (bel_then HB.out hb)
      replace HE : Hd (Env X2 [⟨w.heap.size, 27, [.int .i64 Wd, .int .i64 Ht, .slice A xs.length k]⟩]) := ⟨HE.out.to hb⟩
      have HLS := HL0
      simp only [putAll, List.foldl_cons, List.foldl_nil, Act.put, List.setIfInBounds_toArray, List.set_cons_succ, List.set_cons_zero, List.drop_succ_cons, List.drop_zero]
      clear hv hal hne hb HL0 HBW HLS
      go_wp2_with fail
      refine bodyPost_ret (v := .tuple #[.string { data := #[] }, .int .i64 2]) (by simp [results, Try.results34, go_sem]) rfl ?_
      exact ⟨_, rfl, HB.out, _, _, rfl, rfl, rfl⟩
set_option maxRecDepth 100000 in
set_option maxHeartbeats 1000000 in
theorem Kind_big (Wd Ht : Int) (A : Option Addr) (k : Nat) (xs : List Int) (hbig : 6 < Wd ∨ 6 < Ht) (w : World) (hri : RI w A xs) (hv : validB Wd Ht xs = true) :
    Calls Try.prog 34 #[.agg #[.int .i64 Wd, .int .i64 Ht, .slice A xs.length k]] w (Got w (isP (isV (.string { data := #[] })) (isV (.int .i64 3))).p) := by
  have HRI := Hd.mk hri
  have HV := Hd.mk hv
  clear hri hv
  go_enter Try.func34, Try.ntmps34
  go_upto_region 1 with fail
  obtain ⟨W0, hW0⟩ : ∃ W : World, W = w.alloc (.cells #[.int .i64 Wd, .int .i64 Ht, .slice A xs.length k] 27) := ⟨_, rfl⟩
  rw [← hW0]
  obtain ⟨he, hb⟩ := env_one hW0
  have HE := Hd.mk he
  have HB := Hd.mk hb
  clear he hb hW0
  refine wp_region_vd 3 [13, 14, 15] [2] [] 84 [.int .i64 0, .int .i64 0] [isV (.agg #[.int .i64 Wd, .int .i64 Ht, .slice A xs.length k]), isV (.bool true), isV (.bool false)] (by rfl) alloc_Z ?_ ?_
  · intro qi qh qA aa wx hb hs hd
    match qi, qh, qA with
    | 0, _, _ => exact .inl ⟨rfl, op_ldT rfl rfl (hs 1 rfl) ((HE.out.to hb).get 0 rfl)⟩
    | 1, _, _ => exact .inl ⟨rfl, wp_b (bool_eq HV.out) (op_call1 rfl rfl Try.call16 (by rw [(show aa.eval (.tmp 13) = .agg #[.int .i64 Wd, .int .i64 Ht, .slice A xs.length k] from (hd 0 rfl))]; exact Valid_got Wd Ht A k xs _ (HRI.out.to (bel_then HB.out hb))))⟩
    | 2, _, _ => exact .inl ⟨rfl, ⟨_, op_not rfl (hd 1 rfl), rfl⟩⟩
    | qi + 3, h, _ => omega
  · intro vs X1 hb hv hal hne
    have HL0 := Hd.mk (HE.out.lt)
    have HBW := HB
    replace HB := Hd.mk (bel_then HB.out hb)
    replace HE : Hd (Env X1 [⟨w.heap.size, 27, [.int .i64 Wd, .int .i64 Ht, .slice A xs.length k]⟩]) := ⟨HE.out.to hb⟩
    have HLS := HL0
    have e15 : vs 15 = .bool false := hv 2 (by decide) rfl
    simp only [putAll, List.foldl_cons, List.foldl_nil, Act.put, List.setIfInBounds_toArray, List.set_cons_succ, List.set_cons_zero, List.drop_succ_cons, List.drop_zero, e15]
    generalize vs 13 = s13
    generalize vs 14 = s14
    clear hv hal hne hb HL0 HBW HLS e15
    go_upto_region 3 with fail
    refine wp_region_vd 6 [17, 18, 19, 20, 21, 22] [0, 2, 5] [] 84 [.int .i64 0, .int .i64 0] [isV (.pointer (some ⟨w.heap.size, 0, none⟩)), isV (.int .i64 Wd), isV (.pointer (some ⟨w.heap.size, 1, none⟩)), isV (.int .i64 Ht), isV (.int .i64 (if Wd < Ht then Ht else Wd)), isV (.bool true)] (by rfl) alloc_Z ?_ ?_
    · intro qi qh qA aa wx hb hs hd
      match qi, qh, qA with
      | 0, _, _ => exact .inl ⟨rfl, ⟨_, op_faT0 rfl (hs 1 rfl), rfl⟩⟩
      | 1, _, _ => exact .inl ⟨rfl, op_ldI rfl rfl (hd 0 rfl) ((HE.out.to hb).cell 0 0 rfl rfl)⟩
      | 2, _, _ => exact .inl ⟨rfl, ⟨_, op_faT1 rfl (hs 1 rfl), rfl⟩⟩
      | 3, _, _ => exact .inl ⟨rfl, op_ldI rfl rfl (hd 2 rfl) ((HE.out.to hb).cell 0 1 rfl rfl)⟩
      | 4, _, _ => exact .inl ⟨rfl, op_max rfl rfl (hd 1 rfl) (hd 3 rfl)⟩
      | 5, _, _ => exact .inl ⟨rfl, pure_b (bool_eq (decide_eq_true (by split <;> omega))) (⟨_, op_gtrI rfl (hd 4 rfl) rfl, rfl⟩)⟩
      | qi + 6, h, _ => omega
    · intro vs X2 hb hv hal hne
      have HL0 := Hd.mk (HE.out.lt)
      have HBW := HB
      replace HB := Hd.mk (bel_then HB.out hb)
      replace HE : Hd (Env X2 [⟨w.heap.size, 27, [.int .i64 Wd, .int .i64 Ht, .slice A xs.length k]⟩]) := ⟨HE.out.to hb⟩
      have HLS := HL0
      have e22 : vs 22 = .bool true := hv 5 (by decide) rfl
      simp only [putAll, List.foldl_cons, List.foldl_nil, Act.put, List.setIfInBounds_toArray, List.set_cons_succ, List.set_cons_zero, List.drop_succ_cons, List.drop_zero, e22]
      generalize vs 17 = s17
      generalize vs 18 = s18
      generalize vs 19 = s19
      generalize vs 20 = s20
      generalize vs 21 = s21
      clear hv hal hne hb HL0 HBW HLS e22
      go_upto_region 4 with fail
      refine wp_region_vd 0 [] [] [] 84 [.int .i64 0, .int .i64 0] [] (by rfl) alloc_Z ?_ ?_
      · intro qi qh qA aa wx hb hs hd
        match qi, qh, qA with
        | qi + 0, h, _ => omega
      · intro vs X3 hb hv hal hne
        have HL0 := Hd.mk (HE.out.lt)
        have HBW := HB
        replace HB := Hd.mk (bel_then HB.out hb)
        replace HE : Hd (Env X3 [⟨w.heap.size, 27, [.int .i64 Wd, .int .i64 Ht, .slice A xs.length k]⟩]) := ⟨HE.out.to hb⟩
        have HLS := HL0
        simp only [putAll, List.foldl_cons, List.foldl_nil, Act.put, List.setIfInBounds_toArray, List.set_cons_succ, List.set_cons_zero, List.drop_succ_cons, List.drop_zero]
        clear hv hal hne hb HL0 HBW HLS
        go_wp2_with fail
        refine bodyPost_ret (v := .tuple #[.string { data := #[] }, .int .i64 3]) (by simp [results, Try.results34, go_sem]) rfl ?_
        exact ⟨_, rfl, HB.out, _, _, rfl, rfl, rfl⟩
end Go.Proofs.Ytddbmckbankmeaa
