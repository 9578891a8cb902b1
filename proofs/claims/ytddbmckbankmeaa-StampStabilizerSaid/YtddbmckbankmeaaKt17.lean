/- Part 17 of the texts behind this claim. -/
import Derived.Test.YtddbmckbankmeaaKt8
import Derived.Test.YtddbmckbankmeaaKt16
set_option linter.unusedVariables false
set_option linter.unusedSimpArgs false
namespace Go.Proofs.Ytddbmckbankmeaa
open Go.RowKit
section
variable {w : World} {A B : Option Addr} {k c lo lo' n : Nat} {ms : List Mv} {Wd Ht : Int} {xs : List Int} {f : Nat} {vs : Array Value} {q : SP}
theorem got_ss (h : lo ≤ lo') (hc : Calls Try.prog f vs w (Got w (isSs lo' ms).p)) : Calls Try.prog f vs w (Got w (isSs lo ms).p) := hc.mono fun e w' ⟨v, h1, h2, h3⟩ => ⟨v, h1, h2, OwnS.lower h h3⟩
theorem got_ln (hc : Calls Try.prog f vs w (Got w (isP (isSs lo' ms) q).p)) : Calls Try.prog f vs w (Got w (isP (isLn ms.length) q).p) := hc.mono fun e w' ⟨v, h1, h2, x, y, h3, h4, h5⟩ => ⟨v, h1, h2, x, y, h3, (by obtain ⟨A, k, e, _⟩ := row_reads h4; exact ⟨A, k, e⟩), h5⟩
theorem moves_all (hrm : RdM w A ms) (hln : ms.length ≤ 521) : Calls Try.prog 30 #[.slice A ms.length k] w (Got w (isSs w.heap.size ms).p) := by
  have h := moves_got A k ms w hrm (by omega)
  rwa [List.take_of_length_le hln] at h
theorem stamps_all (hri : RI w B xs) (hlk : xs.length ≤ c) (hB : B = none → c = 0) (hl : xs.length ≤ 70) : Calls Try.prog 15 #[.agg #[.int .i64 Wd, .int .i64 Ht, .slice B xs.length c]] w (Got w (isSt w.heap.size Wd Ht xs).p) := by
  have h := stamps_got Wd Ht B c xs w hri hlk hB
  rwa [List.take_of_length_le hl] at h
theorem rd_ok {W H : Int} {s : Sl} {ys : List Int} (h : s.ok w) (e : s.xs = ys) : (rdS W H ys).p (.agg #[.int .i64 W, .int .i64 H, .slice s.A s.xs.length s.k]) w := by
  subst e
  exact ⟨s.A, s.k, rfl, h.1.1⟩
end
theorem gp_few {W H : Int} {ms : List Mv} (hs : sizeB W H = true) (h : gB W H ms = true) : ms.length ≤ 512 := by
  obtain ⟨Wn, Hn, rfl, rfl, hs'⟩ := size_nat hs
  have hb := sizeB_bounds hs'
  rw [gB_list hs' h]
  exact Nat.le_trans (List.length_filter_le _ _) (moves_len (by omega) (by omega))
theorem gp_take {W H : Int} {ms : List Mv} (hs : sizeB W H = true) (h : gB W H (ms.take 521) = true) : ms.take 521 = ms := by
  have h1 := gp_few hs h
  rw [List.length_take] at h1
  exact List.take_of_length_le (by omega)
theorem least_mem {W H : Int} {xs : List Int} {ms : List Mv} (h : 0 < ms.length) : leastL W H xs ms ∈ orbL W H xs ms := by
  have h2 : apM W H ms[0] xs ∈ orbL W H xs ms := orb_mem.2 ⟨_, List.getElem_mem _, rfl⟩
  unfold leastL
  cases ho : orbL W H xs ms with
  | nil => rw [ho] at h2; cases h2
  | cons a l => simp
theorem least_short {W H : Int} {xs : List Int} {ms : List Mv} (h : 0 < ms.length) (hs : xs.length ≤ 64) : (leastL W H xs ms).length ≤ 1000000 := by
  obtain ⟨m, _, e⟩ := orb_mem.1 (least_mem (W := W) (H := H) (xs := xs) h)
  rw [← e, apM_length]
  omega
set_option maxRecDepth 100000 in
set_option maxHeartbeats 1000000 in
theorem SStab_no (Wd Ht : Int) (A : Option Addr) (k : Nat) (ms : List Mv) (B : Option Addr) (c : Nat) (xs : List Int) (w : World) (hrm : RdM w A ms) (hln : ms.length ≤ 9223372036854775807) (hri : RI w B xs) (hlk : xs.length ≤ c) (hB : B = none → c = 0) (hn : (validB Wd Ht (xs.take 70) && gB Wd Ht (ms.take 521)) = false) :
    Calls Try.prog 12 #[.slice A ms.length k, .agg #[.int .i64 Wd, .int .i64 Ht, .slice B xs.length c]] w (Got w (isV (.bool true)).p) := by
  have HRM := Hd.mk hrm
  have HRI := Hd.mk hri
  have HLK := Hd.mk hlk
  have HBA := Hd.mk hB
  clear hrm hri hlk hB
  have HN := Hd.mk hn
  clear hn
  go_enter Try.func12, Try.ntmps12
  go_upto_region 1 with fail
  obtain ⟨W0, hW0⟩ : ∃ W : World, W = w.alloc (.cells #[.int .i64 Wd, .int .i64 Ht, .slice B xs.length c] 24) := ⟨_, rfl⟩
  rw [← hW0]
  obtain ⟨he, hb⟩ := env_one hW0
  have HE := Hd.mk he
  have HB := Hd.mk hb
  clear he hb hW0
  refine wp_region_vs 10 [16, 17, 18, 19, 20, 15, 21, 22, 5, 6] [0, 5, 6, 7, 8, 9] [] 84 [.int .i64 0, .int .i64 0] [isV (.slice A ms.length k), isSs w.heap.size (ms.take 521), isV (.agg #[.int .i64 Wd, .int .i64 Ht, .slice B xs.length c]), isSt W0.heap.size Wd Ht (xs.take 70), isP (isV (.slice none 0 0)) (isV (.int .i64 2)), isP (isV (.slice none 0 0)) (isV (.int .i64 2)), isV (.slice none 0 0), isV (.int .i64 2), isV (.slice none 0 0), isV (.int .i64 2)] (by kernel_rfl) (by kernel_rfl) (by kernel_rfl) (by rfl) alloc_Z (fun d v c a w h => by cases d <;> exact h) ?_ ?_
  · intro qi qh qA aa wx hb hs hd
    match qi, qh, qA with
    | 0, _, _ => exact op_mv rfl (hs 0 rfl)
    | 1, _, _ => exact op_call1 rfl rfl Try.call30 (by rw [(show aa.eval (.tmp 16) = .slice A ms.length k from (hd 0 rfl))]; exact got_ss (Nat.le_trans HB.out.size hb.size) (moves_got A k ms _ (HRM.out.to (bel_then HB.out hb)) hln))
    | 2, _, _ => exact op_ldU rfl rfl (hs 3 rfl) ((HE.out.to hb).get 0 rfl)
    | 3, _, _ => exact op_call1 rfl rfl Try.call15 (by rw [(show aa.eval (.tmp 18) = .agg #[.int .i64 Wd, .int .i64 Ht, .slice B xs.length c] from (hd 2 rfl))]; exact got_st hb.size (stamps_got Wd Ht B c xs _ (HRI.out.to (bel_then HB.out hb)) HLK.out HBA.out))
    | 4, _, _ => exact op_call2 rfl rfl Try.call45 (by obtain ⟨A', k', e, r, _⟩ := row_reads (hd 1 rfl); obtain ⟨B', c', e2, r2⟩ := rd_st (hd 3 rfl); rw [show aa.eval (.tmp 17) = _ from e, show aa.eval (.tmp 19) = _ from e2]; exact Keeps_no Wd Ht A' k' (ms.take 521) B' c' (xs.take 70) _ r (by rw [List.length_take]; omega) r2 HN.out)
    | 5, _, _ => exact op_mv rfl (hd 4 rfl)
    | 6, _, _ => exact op_fst rfl (hd 5 rfl)
    | 7, _, _ => exact op_snd rfl (hd 5 rfl)
    | 8, _, _ => exact op_asg rfl (hd 6 rfl)
    | 9, _, _ => exact op_asg rfl (hd 7 rfl)
    | qi + 10, h, _ => omega
  · intro vs X1 hb hv hal hne
    have HL0 := Hd.mk (HE.out.lt)
    have HBW := HB
    replace HB := Hd.mk (bel_then HB.out hb)
    replace HE : Hd (Env X1 [⟨w.heap.size, 24, [.int .i64 Wd, .int .i64 Ht, .slice B xs.length c]⟩]) := ⟨HE.out.to hb⟩
    have HLS := HL0
    have e5 : vs 5 = .slice none 0 0 := hv 8 (by decide) rfl
    have e6 : vs 6 = .int .i64 2 := hv 9 (by decide) rfl
    simp only [putAll, List.foldl_cons, List.foldl_nil, Act.put, List.setIfInBounds_toArray, List.set_cons_succ, List.set_cons_zero, List.drop_succ_cons, List.drop_zero, e5, e6]
    generalize vs 16 = s16
    generalize vs 17 = s17
    generalize vs 18 = s18
    generalize vs 19 = s19
    generalize vs 20 = s20
    generalize vs 15 = s15
    generalize vs 21 = s21
    generalize vs 22 = s22
    clear hv hal hne hb HL0 HBW HLS e5 e6
    go_upto_region 2 with fail
    refine wp_region_vd 2 [23, 24] [0, 1] [] 84 [.int .i64 0, .int .i64 0] [isV (.int .i64 2), isV (.bool true)] (by rfl) alloc_Z ?_ ?_
    · intro qi qh qA aa wx hb hs hd
      match qi, qh, qA with
      | 0, _, _ => exact .inl ⟨rfl, op_mv rfl (hs 6 rfl)⟩
      | 1, _, _ => exact .inl ⟨rfl, pure_b (bool_eq (by decide)) (⟨_, op_neqE rfl (hd 0 rfl) rfl, rfl⟩)⟩
      | qi + 2, h, _ => omega
    · intro vs X2 hb hv hal hne
      have HL0 := Hd.mk (HE.out.lt)
      have HBW := HB
      replace HB := Hd.mk (bel_then HB.out hb)
      replace HE : Hd (Env X2 [⟨w.heap.size, 24, [.int .i64 Wd, .int .i64 Ht, .slice B xs.length c]⟩]) := ⟨HE.out.to hb⟩
      have HLS := HL0
      have e24 : vs 24 = .bool true := hv 1 (by decide) rfl
      simp only [putAll, List.foldl_cons, List.foldl_nil, Act.put, List.setIfInBounds_toArray, List.set_cons_succ, List.set_cons_zero, List.drop_succ_cons, List.drop_zero, e24]
      generalize vs 23 = s23
      clear hv hal hne hb HL0 HBW HLS e24
      go_upto_region 3 with fail
      refine wp_region_vd 5 [25, 26, 27, 28, 29] [0, 1, 2, 4] [] 84 [.int .i64 0, .int .i64 0] [isV (.int .i64 2), isV (.bool true), isV (.bool true), isV (.bool true), isV (.bool true)] (by rfl) alloc_Z ?_ ?_
      · intro qi qh qA aa wx hb hs hd
        match qi, qh, qA with
        | 0, _, _ => exact .inl ⟨rfl, op_mv rfl (hs 6 rfl)⟩
        | 1, _, _ => exact .inl ⟨rfl, pure_b (bool_eq (by decide)) (⟨_, op_eqlE rfl (hd 0 rfl) rfl, rfl⟩)⟩
        | 2, _, _ => exact .inl ⟨rfl, op_mv rfl (hd 1 rfl)⟩
        | 3, _, _ => exact .inl ⟨⟨rfl, .inl (hd 2 rfl)⟩, op_call0 rfl rfl Try.call18 (awake_got _)⟩
        | 4, _, _ => exact .inl ⟨rfl, ⟨_, op_pickT rfl (hd 2 rfl) (hd 3 rfl), rfl⟩⟩
        | qi + 5, h, _ => omega
      · intro vs X3 hb hv hal hne
        have HL0 := Hd.mk (HE.out.lt)
        have HBW := HB
        replace HB := Hd.mk (bel_then HB.out hb)
        replace HE : Hd (Env X3 [⟨w.heap.size, 24, [.int .i64 Wd, .int .i64 Ht, .slice B xs.length c]⟩]) := ⟨HE.out.to hb⟩
        have HLS := HL0
        have e29 : vs 29 = .bool true := hv 4 (by decide) rfl
        simp only [putAll, List.foldl_cons, List.foldl_nil, Act.put, List.setIfInBounds_toArray, List.set_cons_succ, List.set_cons_zero, List.drop_succ_cons, List.drop_zero, e29]
        generalize vs 25 = s25
        generalize vs 26 = s26
        generalize vs 27 = s27
        generalize vs 28 = s28
        clear hv hal hne hb HL0 HBW HLS e29
        go_wp2_with fail
        go_ret
        exact ⟨_, rfl, HB.out, rfl⟩
set_option maxRecDepth 100000 in
set_option maxHeartbeats 1000000 in
theorem SStab_yes (Wd Ht : Int) (A : Option Addr) (k : Nat) (ms : List Mv) (B : Option Addr) (c : Nat) (xs : List Int) (w : World) (hrm : RdM w A ms) (hln : ms.length ≤ 9223372036854775807) (hri : RI w B xs) (hlk : xs.length ≤ c) (hB : B = none → c = 0) (hv : validB Wd Ht xs = true) (hg : gB Wd Ht ms = true) :
    Calls Try.prog 12 #[.slice A ms.length k, .agg #[.int .i64 Wd, .int .i64 Ht, .slice B xs.length c]] w (Got w (isV (.bool true)).p) := by
  have h512 := gp_few (valid_size hv) hg
  have hsh := valid_short hv
  have HGP := Hd.mk (gp_of (valid_size hv) hg)
  have HLN : Hd ((leastL Wd Ht xs ms).length ≤ 1000000) := ⟨least_short (group_nz hg (valid_size hv)) hsh⟩
  have HRM := Hd.mk hrm
  have HRI := Hd.mk hri
  have HLK := Hd.mk hlk
  have HBA := Hd.mk hB
  clear hrm hri hlk hB
  have HV := Hd.mk hv
  have HG := Hd.mk hg
  clear hv hg
  go_enter Try.func12, Try.ntmps12
  go_upto_region 1 with fail
  obtain ⟨W0, hW0⟩ : ∃ W : World, W = w.alloc (.cells #[.int .i64 Wd, .int .i64 Ht, .slice B xs.length c] 24) := ⟨_, rfl⟩
  rw [← hW0]
  obtain ⟨he, hb⟩ := env_one hW0
  have HE := Hd.mk he
  have HB := Hd.mk hb
  clear he hb hW0
  refine wp_region_vs 10 [16, 17, 18, 19, 20, 15, 21, 22, 5, 6] [0, 5, 6, 7, 8, 9] [] 84 [.int .i64 0, .int .i64 0] [isV (.slice A ms.length k), isSs w.heap.size (ms), isV (.agg #[.int .i64 Wd, .int .i64 Ht, .slice B xs.length c]), isSt W0.heap.size Wd Ht xs, isP (isLn ((keepL Wd Ht xs ms).length)) (isV (.int .i64 0)), isP (isLn ((keepL Wd Ht xs ms).length)) (isV (.int .i64 0)), isLn ((keepL Wd Ht xs ms).length), isV (.int .i64 0), isLn ((keepL Wd Ht xs ms).length), isV (.int .i64 0)] (by kernel_rfl) (by kernel_rfl) (by kernel_rfl) (by rfl) alloc_Z (fun d v c a w h => by cases d <;> exact h) ?_ ?_
  · intro qi qh qA aa wx hb hs hd
    match qi, qh, qA with
    | 0, _, _ => exact op_mv rfl (hs 0 rfl)
    | 1, _, _ => exact op_call1 rfl rfl Try.call30 (by rw [(show aa.eval (.tmp 16) = .slice A ms.length k from (hd 0 rfl))]; exact got_ss (Nat.le_trans HB.out.size hb.size) (moves_all (HRM.out.to (bel_then HB.out hb)) (by omega)))
    | 2, _, _ => exact op_ldU rfl rfl (hs 3 rfl) ((HE.out.to hb).get 0 rfl)
    | 3, _, _ => exact op_call1 rfl rfl Try.call15 (by rw [(show aa.eval (.tmp 18) = .agg #[.int .i64 Wd, .int .i64 Ht, .slice B xs.length c] from (hd 2 rfl))]; exact got_st hb.size (stamps_all (HRI.out.to (bel_then HB.out hb)) HLK.out HBA.out (by omega)))
    | 4, _, _ => exact op_call2 rfl rfl Try.call45 (by obtain ⟨A', k', e, r, _⟩ := row_reads (hd 1 rfl); obtain ⟨B', c', e2, r2⟩ := rd_st (hd 3 rfl); rw [show aa.eval (.tmp 17) = _ from e, show aa.eval (.tmp 19) = _ from e2]; exact got_ln (Keeps_ok Wd Ht A' k' ms B' c' xs _ r (by omega) r2 HV.out HG.out))
    | 5, _, _ => exact op_mv rfl (hd 4 rfl)
    | 6, _, _ => exact op_fst rfl (hd 5 rfl)
    | 7, _, _ => exact op_snd rfl (hd 5 rfl)
    | 8, _, _ => exact op_asg rfl (hd 6 rfl)
    | 9, _, _ => exact op_asg rfl (hd 7 rfl)
    | qi + 10, h, _ => omega
  · intro vs X1 hb hv hal hne
    have HL0 := Hd.mk (HE.out.lt)
    have HBW := HB
    replace HB := Hd.mk (bel_then HB.out hb)
    replace HE : Hd (Env X1 [⟨w.heap.size, 24, [.int .i64 Wd, .int .i64 Ht, .slice B xs.length c]⟩]) := ⟨HE.out.to hb⟩
    have HLS := HL0
    obtain ⟨A5, k5, e5⟩ : ∃ A k, vs 5 = .slice A ((keepL Wd Ht xs ms).length) k := hv 8 (by decide) rfl
    have e6 : vs 6 = .int .i64 0 := hv 9 (by decide) rfl
    simp only [putAll, List.foldl_cons, List.foldl_nil, Act.put, List.setIfInBounds_toArray, List.set_cons_succ, List.set_cons_zero, List.drop_succ_cons, List.drop_zero, e5, e6]
    generalize vs 16 = s16
    generalize vs 17 = s17
    generalize vs 18 = s18
    generalize vs 19 = s19
    generalize vs 20 = s20
    generalize vs 15 = s15
    generalize vs 21 = s21
    generalize vs 22 = s22
    clear hv hal hne hb HL0 HBW HLS e5 e6
    go_upto_region 2 with fail
    refine wp_region_vd 2 [23, 24] [0, 1] [] 84 [.int .i64 0, .int .i64 0] [isV (.int .i64 0), isV (.bool false)] (by rfl) alloc_Z ?_ ?_
    · intro qi qh qA aa wx hb hs hd
      match qi, qh, qA with
      | 0, _, _ => exact .inl ⟨rfl, op_mv rfl (hs 6 rfl)⟩
      | 1, _, _ => exact .inl ⟨rfl, pure_b (bool_eq (by decide)) (⟨_, op_neqE rfl (hd 0 rfl) rfl, rfl⟩)⟩
      | qi + 2, h, _ => omega
    · intro vs X2 hb hv hal hne
      have HL0 := Hd.mk (HE.out.lt)
      have HBW := HB
      replace HB := Hd.mk (bel_then HB.out hb)
      replace HE : Hd (Env X2 [⟨w.heap.size, 24, [.int .i64 Wd, .int .i64 Ht, .slice B xs.length c]⟩]) := ⟨HE.out.to hb⟩
      have HLS := HL0
      have e24 : vs 24 = .bool false := hv 1 (by decide) rfl
      simp only [putAll, List.foldl_cons, List.foldl_nil, Act.put, List.setIfInBounds_toArray, List.set_cons_succ, List.set_cons_zero, List.drop_succ_cons, List.drop_zero, e24]
      generalize vs 23 = s23
      clear hv hal hne hb HL0 HBW HLS e24
      go_upto_region 4 with fail
      refine wp_region_vs 10 [31, 32, 33, 34, 35, 30, 36, 37, 7, 8] [0, 5, 6, 7, 8, 9] [] 84 [.int .i64 0, .int .i64 0] [isV (.slice A ms.length k), isSs w.heap.size (ms), isV (.agg #[.int .i64 Wd, .int .i64 Ht, .slice B xs.length c]), isSt X2.heap.size Wd Ht xs, isP (isTs X2.heap.size Wd Ht (orbL Wd Ht xs ms)) (isV (.int .i64 0)), isP (isTs X2.heap.size Wd Ht (orbL Wd Ht xs ms)) (isV (.int .i64 0)), isTs X2.heap.size Wd Ht (orbL Wd Ht xs ms), isV (.int .i64 0), isTs X2.heap.size Wd Ht (orbL Wd Ht xs ms), isV (.int .i64 0)] (by kernel_rfl) (by kernel_rfl) (by kernel_rfl) (by rfl) alloc_Z (fun d v c a w h => by cases d <;> exact h) ?_ ?_
      · intro qi qh qA aa wx hb hs hd
        match qi, qh, qA with
        | 0, _, _ => exact op_mv rfl (hs 0 rfl)
        | 1, _, _ => exact op_call1 rfl rfl Try.call30 (by rw [(show aa.eval (.tmp 31) = .slice A ms.length k from (hd 0 rfl))]; exact got_ss (Nat.le_trans HB.out.size hb.size) (moves_all (HRM.out.to (bel_then HB.out hb)) (by omega)))
        | 2, _, _ => exact op_ldU rfl rfl (hs 3 rfl) ((HE.out.to hb).get 0 rfl)
        | 3, _, _ => exact op_call1 rfl rfl Try.call15 (by rw [(show aa.eval (.tmp 33) = .agg #[.int .i64 Wd, .int .i64 Ht, .slice B xs.length c] from (hd 2 rfl))]; exact got_st hb.size (stamps_all (HRI.out.to (bel_then HB.out hb)) HLK.out HBA.out (by omega)))
        | 4, _, _ => exact op_call2 rfl rfl Try.call44 (by obtain ⟨A', k', e, r, _⟩ := row_reads (hd 1 rfl); obtain ⟨B', c', e2, r2⟩ := rd_st (hd 3 rfl); rw [show aa.eval (.tmp 32) = _ from e, show aa.eval (.tmp 34) = _ from e2]; exact got_ts hb.size (Orbit_ok Wd Ht A' k' ms B' c' xs _ r (by omega) r2 HV.out HG.out))
        | 5, _, _ => exact op_mv rfl (hd 4 rfl)
        | 6, _, _ => exact op_fst rfl (hd 5 rfl)
        | 7, _, _ => exact op_snd rfl (hd 5 rfl)
        | 8, _, _ => exact op_asg rfl (hd 6 rfl)
        | 9, _, _ => exact op_asg rfl (hd 7 rfl)
        | qi + 10, h, _ => omega
      · intro vs X3 hb hv hal hne
        have HL0 := Hd.mk (HE.out.lt)
        have HBW := HB
        replace HB := Hd.mk (bel_then HB.out hb)
        replace HE : Hd (Env X3 [⟨w.heap.size, 24, [.int .i64 Wd, .int .i64 Ht, .slice B xs.length c]⟩]) := ⟨HE.out.to hb⟩
        have HLS := HL0
        obtain ⟨gO, kO, restO, tsO, e7, hmO, l7, b7, okO⟩ : (isTs X2.heap.size Wd Ht (orbL Wd Ht xs ms)).p (vs 7) X3 := hv 8 (by decide) rfl
        replace HE : Hd (Env X3 [⟨w.heap.size, 24, [.int .i64 Wd, .int .i64 Ht, .slice B xs.length c]⟩, ⟨gO, 27, tsO.flatMap (encT Wd Ht) ++ restO⟩]) := ⟨Env.addne (e := ⟨gO, 27, tsO.flatMap (encT Wd Ht) ++ restO⟩) HE.out b7 (fun e' he => Nat.ne_of_lt (Nat.lt_of_lt_of_le (HL0.out e' he) l7))⟩
        have HMO := Hd.mk hmO
        have OKO := Hd.mk okO
        have G7 : Hd (w.heap.size ≤ gO) := ⟨Nat.le_trans HBW.out.size l7⟩
        clear hmO okO l7 b7
        have e8 : vs 8 = .int .i64 0 := hv 9 (by decide) rfl
        simp only [putAll, List.foldl_cons, List.foldl_nil, Act.put, List.setIfInBounds_toArray, List.set_cons_succ, List.set_cons_zero, List.drop_succ_cons, List.drop_zero, e7, e8]
        generalize vs 31 = s31
        generalize vs 32 = s32
        generalize vs 33 = s33
        generalize vs 34 = s34
        generalize vs 35 = s35
        generalize vs 30 = s30
        generalize vs 36 = s36
        generalize vs 37 = s37
        clear hv hal hne hb HL0 HBW HLS e7 e8
        have HLO : Hd (tsO.length = (orbL Wd Ht xs ms).length) := ⟨by rw [← HMO.out, List.length_map]⟩
        have HSTB : Hd (((((keepL Wd Ht xs ms).length : Nat) : Int) * ((tsO.length : Nat) : Int)) = ((ms.length : Nat) : Int)) := ⟨by rw [HLO.out, ← Int.natCast_mul, orbit_stab HGP.out HV.out]⟩
        go_upto_region 5 with fail
        refine wp_region_vs 9 [39, 40, 41, 42, 43, 38, 44, 45, 9] [0, 5, 6, 7] [8] 27 [.int .i64 0, .int .i64 0, .slice none 0 0] [isV (.slice A ms.length k), isSs w.heap.size (ms), isV (.agg #[.int .i64 Wd, .int .i64 Ht, .slice B xs.length c]), isSt X3.heap.size Wd Ht xs, isP (okS Wd Ht (leastL Wd Ht xs ms)) (isV (.int .i64 0)), isP (okS Wd Ht (leastL Wd Ht xs ms)) (isV (.int .i64 0)), okS Wd Ht (leastL Wd Ht xs ms), isV (.int .i64 0), SP.any] (by kernel_rfl) (by kernel_rfl) (by kernel_rfl) (by rfl) alloc_T (fun d v c a w h => by cases d <;> exact h) ?_ ?_
        · intro qi qh qA aa wx hb hs hd
          match qi, qh, qA with
          | 0, _, _ => exact op_mv rfl (hs 0 rfl)
          | 1, _, _ => exact op_call1 rfl rfl Try.call30 (by rw [(show aa.eval (.tmp 39) = .slice A ms.length k from (hd 0 rfl))]; exact got_ss (Nat.le_trans HB.out.size hb.size) (moves_all (HRM.out.to (bel_then HB.out hb)) (by omega)))
          | 2, _, _ => exact op_ldU rfl rfl (hs 3 rfl) ((HE.out.to hb).get 0 rfl)
          | 3, _, _ => exact op_call1 rfl rfl Try.call15 (by rw [(show aa.eval (.tmp 41) = .agg #[.int .i64 Wd, .int .i64 Ht, .slice B xs.length c] from (hd 2 rfl))]; exact got_st hb.size (stamps_all (HRI.out.to (bel_then HB.out hb)) HLK.out HBA.out (by omega)))
          | 4, _, _ => exact op_call2 rfl rfl Try.call46 (by obtain ⟨A', k', e, r, _⟩ := row_reads (hd 1 rfl); obtain ⟨B', c', e2, r2⟩ := rd_st (hd 3 rfl); rw [show aa.eval (.tmp 40) = _ from e, show aa.eval (.tmp 42) = _ from e2]; exact Least_ok Wd Ht A' k' ms B' c' xs _ r (by omega) r2 HV.out HG.out)
          | 5, _, _ => exact op_mv rfl (hd 4 rfl)
          | 6, _, _ => exact op_fst rfl (hd 5 rfl)
          | 7, _, _ => exact op_snd rfl (hd 5 rfl)
          | 8, _, h => cases h
          | qi + 9, h, _ => omega
        · intro vs X4 hb hv hal hne
          have HL0 := Hd.mk (HE.out.lt)
          have HBW := HB
          replace HB := Hd.mk (bel_then HB.out hb)
          replace HE : Hd (Env X4 [⟨w.heap.size, 24, [.int .i64 Wd, .int .i64 Ht, .slice B xs.length c]⟩, ⟨gO, 27, tsO.flatMap (encT Wd Ht) ++ restO⟩]) := ⟨HE.out.to hb⟩
          have HLS := HL0
          replace OKO := Hd.mk (OKO.out.to hb)
          obtain ⟨sL, hxL, e44, okL⟩ : (okS Wd Ht (leastL Wd Ht xs ms)).p (vs 44) X4 := hv 6 (by decide) rfl
          have HXL := Hd.mk hxL
          have OKL := Hd.mk (OkT.one okL)
          clear hxL okL
          have e45 : vs 45 = .int .i64 0 := hv 7 (by decide) rfl
          obtain ⟨g9, e9, l9, b9⟩ : ∃ g, vs 9 = .pointer (some ⟨g, 0, none⟩) ∧ _ := hal 8 rfl
          replace HE : Hd (Env X4 [⟨w.heap.size, 24, [.int .i64 Wd, .int .i64 Ht, .slice B xs.length c]⟩, ⟨gO, 27, tsO.flatMap (encT Wd Ht) ++ restO⟩, ⟨g9, 27, [.int .i64 0, .int .i64 0, .slice none 0 0]⟩]) := ⟨Env.addne (e := ⟨g9, 27, [.int .i64 0, .int .i64 0, .slice none 0 0]⟩) HE.out b9 (fun e' he => Nat.ne_of_lt (Nat.lt_of_lt_of_le (HL0.out e' he) l9))⟩
          have G9 : Hd (w.heap.size ≤ g9) := ⟨Nat.le_trans HBW.out.size l9⟩
          simp only [putAll, List.foldl_cons, List.foldl_nil, Act.put, List.setIfInBounds_toArray, List.set_cons_succ, List.set_cons_zero, List.drop_succ_cons, List.drop_zero, e44, e45, e9]
          generalize vs 39 = s39
          generalize vs 40 = s40
          generalize vs 41 = s41
          generalize vs 42 = s42
          generalize vs 43 = s43
          generalize vs 38 = s38
          clear hv hal hne hb HL0 HBW HLS e44 e45 e9 l9 b9
          refine wpList_st rfl rfl rfl rfl rfl (sto_T (HE.out.get 2 rfl)) ?_
          have HE' : Env (putL X4 g9 0 [.int .i64 Wd, .int .i64 Ht, .slice sL.A sL.xs.length sL.k]) [⟨w.heap.size, 24, [.int .i64 Wd, .int .i64 Ht, .slice B xs.length c]⟩, ⟨gO, 27, tsO.flatMap (encT Wd Ht) ++ restO⟩, ⟨g9, 27, [.int .i64 Wd, .int .i64 Ht, .slice sL.A sL.xs.length sL.k]⟩] := HE.out.putF 2 rfl rfl
          have HB' := putL_below (show w.heap.size ≤ g9 from G9.out) [.int .i64 Wd, .int .i64 Ht, .slice sL.A sL.xs.length sL.k] _ 0 HB.out
          replace OKO := Hd.mk (OKO.out.putB (vs := [.int .i64 Wd, .int .i64 Ht, .slice sL.A sL.xs.length sL.k]) (o := 0) (HE.out.get 2 rfl))
          replace OKL := Hd.mk (OKL.out.putB (vs := [.int .i64 Wd, .int .i64 Ht, .slice sL.A sL.xs.length sL.k]) (o := 0) (HE.out.get 2 rfl))
          generalize putL X4 g9 0 [.int .i64 Wd, .int .i64 Ht, .slice sL.A sL.xs.length sL.k] = X5 at *
          replace HE := Hd.mk HE'
          replace HB := Hd.mk HB'
          clear HE' HB'
          go_upto_region 6 with fail
          refine wp_region_vd 16 [46, 47, 48, 49, 50, 51, 52, 53, 54, 55, 56, 57, 58, 59, 60, 61] [0, 1, 2, 3, 4, 5, 6, 7, 9, 11, 12, 14, 15] [] 84 [.int .i64 0, .int .i64 0] [isV (.int .i64 0), isV (.bool false), isV (.bool false), isV (.int .i64 0), isV (.bool false), isV (.bool false), isV (.bool false), isV (.slice A5 (((keepL Wd Ht xs ms).length)) k5), isV (.int .i64 ((((keepL Wd Ht xs ms).length : Nat) : Int))), isV (.slice (some ⟨gO, 0, none⟩) tsO.length kO), isV (.int .i64 (((tsO.length : Nat) : Int))), isV (.int .i64 (((((keepL Wd Ht xs ms).length : Nat) : Int)) * (((tsO.length : Nat) : Int)))), isV (.slice A ms.length k), isV (.int .i64 (((ms.length : Nat) : Int))), isV (.bool false), isV (.bool false)] (by rfl) alloc_Z ?_ ?_
          · intro qi qh qA aa wx hb hs hd
            match qi, qh, qA with
            | 0, _, _ => exact .inl ⟨rfl, op_mv rfl (hs 8 rfl)⟩
            | 1, _, _ => exact .inl ⟨rfl, pure_b (bool_eq (by decide)) (⟨_, op_neqE rfl (hd 0 rfl) rfl, rfl⟩)⟩
            | 2, _, _ => exact .inl ⟨rfl, op_mv rfl (hd 1 rfl)⟩
            | 3, _, _ => exact .inl ⟨⟨rfl, .inl (hd 2 rfl)⟩, op_mv rfl (hs 10 rfl)⟩
            | 4, _, _ => exact .inl ⟨⟨rfl, .inl (hd 2 rfl)⟩, pure_b (bool_eq (by decide)) (⟨_, op_neqE rfl (hd 3 rfl) rfl, rfl⟩)⟩
            | 5, _, _ => exact .inl ⟨rfl, ⟨_, op_pickF rfl (hd 2 rfl) (hd 4 rfl), rfl⟩⟩
            | 6, _, _ => exact .inl ⟨rfl, op_mv rfl (hd 5 rfl)⟩
            | 7, _, _ => exact .inl ⟨⟨rfl, .inl (hd 6 rfl)⟩, op_mv rfl (hs 5 rfl)⟩
            | 8, _, _ => exact .inl ⟨⟨rfl, .inl (hd 6 rfl)⟩, op_lenvVM rfl rfl (hd 7 rfl)⟩
            | 9, _, _ => exact .inl ⟨⟨rfl, .inl (hd 6 rfl)⟩, op_mv rfl (hs 7 rfl)⟩
            | 10, _, _ => exact .inl ⟨⟨rfl, .inl (hd 6 rfl)⟩, op_lenT rfl rfl (hd 9 rfl)⟩
            | 11, _, _ => exact .inl ⟨⟨rfl, .inl (hd 6 rfl)⟩, ⟨_, op_mul (by unfold Fit; rw [HSTB.out]; omega) rfl (hd 8 rfl) (hd 10 rfl), rfl⟩⟩
            | 12, _, _ => exact .inl ⟨⟨rfl, .inl (hd 6 rfl)⟩, op_mv rfl (hs 0 rfl)⟩
            | 13, _, _ => exact .inl ⟨⟨rfl, .inl (hd 6 rfl)⟩, op_lenvVN rfl rfl (hd 12 rfl)⟩
            | 14, _, _ => exact .inl ⟨⟨rfl, .inl (hd 6 rfl)⟩, pure_b (bool_eq (by rw [HSTB.out]; simp)) (⟨_, op_neqI rfl (hd 11 rfl) (hd 13 rfl), rfl⟩)⟩
            | 15, _, _ => exact .inl ⟨rfl, ⟨_, op_pickF rfl (hd 6 rfl) (hd 14 rfl), rfl⟩⟩
            | qi + 16, h, _ => omega
          · intro vs X6 hb hv hal hne
            have HL0 := Hd.mk (HE.out.lt)
            have HBW := HB
            replace HB := Hd.mk (bel_then HB.out hb)
            replace HE : Hd (Env X6 [⟨w.heap.size, 24, [.int .i64 Wd, .int .i64 Ht, .slice B xs.length c]⟩, ⟨gO, 27, tsO.flatMap (encT Wd Ht) ++ restO⟩, ⟨g9, 27, [.int .i64 Wd, .int .i64 Ht, .slice sL.A sL.xs.length sL.k]⟩]) := ⟨HE.out.to hb⟩
            have HLS := HL0
            replace OKO := Hd.mk (OKO.out.to hb)
            replace OKL := Hd.mk (OKL.out.to hb)
            have e61 : vs 61 = .bool false := hv 15 (by decide) rfl
            simp only [putAll, List.foldl_cons, List.foldl_nil, Act.put, List.setIfInBounds_toArray, List.set_cons_succ, List.set_cons_zero, List.drop_succ_cons, List.drop_zero, e61]
            generalize vs 46 = s46
            generalize vs 47 = s47
            generalize vs 48 = s48
            generalize vs 49 = s49
            generalize vs 50 = s50
            generalize vs 51 = s51
            generalize vs 52 = s52
            generalize vs 53 = s53
            generalize vs 54 = s54
            generalize vs 55 = s55
            generalize vs 56 = s56
            generalize vs 57 = s57
            generalize vs 58 = s58
            generalize vs 59 = s59
            generalize vs 60 = s60
            clear hv hal hne hb HL0 HBW HLS e61
            go_upto_region 8 with fail
            refine wp_region_vd 3 [62, 63, 64] [0, 2] [] 84 [.int .i64 0, .int .i64 0] [isV (.slice (some ⟨gO, 0, none⟩) tsO.length kO), isV (.int .i64 (((tsO.length : Nat) : Int))), isV (.int .i64 0)] (by rfl) alloc_Z ?_ ?_
            · intro qi qh qA aa wx hb hs hd
              match qi, qh, qA with
              | 0, _, _ => exact .inl ⟨rfl, op_mv rfl (hs 7 rfl)⟩
              | 1, _, _ => exact .inl ⟨rfl, op_lenT rfl rfl (hd 0 rfl)⟩
              | 2, _, _ => exact .inl ⟨rfl, op_mv rfl rfl⟩
              | qi + 3, h, _ => omega
            · intro vs X7 hb hv hal hne
              have HL0 := Hd.mk (HE.out.lt)
              have HBW := HB
              replace HB := Hd.mk (bel_then HB.out hb)
              replace HE : Hd (Env X7 [⟨w.heap.size, 24, [.int .i64 Wd, .int .i64 Ht, .slice B xs.length c]⟩, ⟨gO, 27, tsO.flatMap (encT Wd Ht) ++ restO⟩, ⟨g9, 27, [.int .i64 Wd, .int .i64 Ht, .slice sL.A sL.xs.length sL.k]⟩]) := ⟨HE.out.to hb⟩
              have HLS := HL0
              replace OKO := Hd.mk (OKO.out.to hb)
              replace OKL := Hd.mk (OKL.out.to hb)
              have e62 : vs 62 = .slice (some ⟨gO, 0, none⟩) tsO.length kO := hv 0 (by decide) rfl
              have e63 : vs 63 = .int .i64 (((tsO.length : Nat) : Int)) := hv 1 (by decide) rfl
              have e64 : vs 64 = .int .i64 0 := hv 2 (by decide) rfl
              simp only [putAll, List.foldl_cons, List.foldl_nil, Act.put, List.setIfInBounds_toArray, List.set_cons_succ, List.set_cons_zero, List.drop_succ_cons, List.drop_zero, e62, e63, e64]
              clear hv hal hne hb HL0 HBW HLS e62 e63 e64
              go_wp2_with fail
              go_loopw [64] (fun s64 wr => ∃ i : Nat, i ≤ tsO.length ∧ i ≤ 21 ∧ s64 = .int .i64 i ∧ Env wr [⟨w.heap.size, 24, [.int .i64 Wd, .int .i64 Ht, .slice B xs.length c]⟩, ⟨gO, 27, tsO.flatMap (encT Wd Ht) ++ restO⟩, ⟨g9, 27, [.int .i64 Wd, .int .i64 Ht, .slice sL.A sL.xs.length sL.k]⟩] ∧ OkT wr tsO ∧ OkT wr [sL] ∧ Below w.heap.size w wr) (fun s64 _ => tsO.length - (intOf s64).toNat)
              case atStart => exact ⟨0, Nat.zero_le _, by omega, rfl, HE.out, OKO.out, OKL.out, HB.out⟩
              case round =>
                obtain ⟨i, hi, hi21, rfl, he, ho, hl, hb⟩ := hrel
                clear HB HE OKO OKL
                have HB := Hd.mk hb
                have OKO := Hd.mk ho
                have OKL := Hd.mk hl
                have HE : Hd (Env wr [⟨w.heap.size, 24, [.int .i64 Wd, .int .i64 Ht, .slice B xs.length c]⟩, ⟨gO, 27, tsO.flatMap (encT Wd Ht) ++ restO⟩, ⟨g9, 27, [.int .i64 Wd, .int .i64 Ht, .slice sL.A sL.xs.length sL.k]⟩]) := ⟨he⟩
                clear he ho hl hb
                by_cases hj : i < tsO.length
                · obtain ⟨sX, hsX⟩ : ∃ s, tsO[i]? = some s := ⟨_, List.getElem?_eq_getElem hj⟩
                  have HSX := Hd.mk hsX
                  have HXM : Hd (sX.xs ∈ orbL Wd Ht xs ms) := ⟨by rw [← HMO.out]; exact List.mem_map.2 ⟨_, List.mem_of_getElem? hsX, rfl⟩⟩
                  clear hsX
                  go_upto_region 10 with fail
                  refine wp_region_vd 4 [66, 67, 68, 12] [0] [3] 27 [.int .i64 0, .int .i64 0, .slice none 0 0] [isV (.int .i64 (((i : Nat) : Int))), isV (.pointer (some ⟨gO, 0 + i * 3, none⟩)), isV (.agg #[.int .i64 Wd, .int .i64 Ht, .slice sX.A sX.xs.length sX.k]), SP.any] (by rfl) alloc_T ?_ ?_
                  · intro qi qh qA aa wx hb hs hd
                    match qi, qh, qA with
                    | 0, _, _ => exact .inl ⟨rfl, op_mv rfl (hs 64 rfl)⟩
                    | 1, _, _ => exact .inl ⟨rfl, op_run rfl (op_idxT hj rfl (hs 62 rfl) (hs 64 rfl) _) rfl⟩
                    | 2, _, _ => exact .inl ⟨rfl, op_ldvT rfl rfl (hd 1 rfl) (by rw [Nat.zero_add]; exact tcell_ld ((HE.out.to hb).get 1 rfl) HSX.out)⟩
                    | 3, _, h => cases h
                    | qi + 4, h, _ => omega
                  · intro vs X1 hb hv hal hne
                    have HL0 := Hd.mk (HE.out.lt)
                    have HBW := HB
                    replace HB := Hd.mk (bel_then HB.out hb)
                    replace HE : Hd (Env X1 [⟨w.heap.size, 24, [.int .i64 Wd, .int .i64 Ht, .slice B xs.length c]⟩, ⟨gO, 27, tsO.flatMap (encT Wd Ht) ++ restO⟩, ⟨g9, 27, [.int .i64 Wd, .int .i64 Ht, .slice sL.A sL.xs.length sL.k]⟩]) := ⟨HE.out.to hb⟩
                    have HLS := HL0
                    replace OKO := Hd.mk (OKO.out.to hb)
                    replace OKL := Hd.mk (OKL.out.to hb)
                    have e66 : vs 66 = .int .i64 (((i : Nat) : Int)) := hv 0 (by decide) rfl
                    have e68 : vs 68 = .agg #[.int .i64 Wd, .int .i64 Ht, .slice sX.A sX.xs.length sX.k] := hv 2 (by decide) rfl
                    obtain ⟨g12, e12, l12, b12⟩ : ∃ g, vs 12 = .pointer (some ⟨g, 0, none⟩) ∧ _ := hal 3 rfl
                    replace HE : Hd (Env X1 [⟨w.heap.size, 24, [.int .i64 Wd, .int .i64 Ht, .slice B xs.length c]⟩, ⟨gO, 27, tsO.flatMap (encT Wd Ht) ++ restO⟩, ⟨g9, 27, [.int .i64 Wd, .int .i64 Ht, .slice sL.A sL.xs.length sL.k]⟩, ⟨g12, 27, [.int .i64 0, .int .i64 0, .slice none 0 0]⟩]) := ⟨Env.addne (e := ⟨g12, 27, [.int .i64 0, .int .i64 0, .slice none 0 0]⟩) HE.out b12 (fun e' he => Nat.ne_of_lt (Nat.lt_of_lt_of_le (HL0.out e' he) l12))⟩
                    have G12 : Hd (w.heap.size ≤ g12) := ⟨Nat.le_trans HBW.out.size l12⟩
                    simp only [putAll, List.foldl_cons, List.foldl_nil, Act.put, List.setIfInBounds_toArray, List.set_cons_succ, List.set_cons_zero, List.drop_succ_cons, List.drop_zero, e66, e68, e12]
                    generalize vs 67 = s67
                    clear hv hal hne hb HL0 HBW HLS e66 e68 e12 l12 b12
                    refine wpList_run rfl (op_asgE (v := .int .i64 (((i : Nat) : Int))) rfl rfl _) ?_
                    simp only [Act.put, List.setIfInBounds_toArray, List.set_cons_succ, List.set_cons_zero]
                    refine wpList_st rfl rfl rfl rfl rfl (sto_T (HE.out.get 3 rfl)) ?_
                    have HE' : Env (putL X1 g12 0 [.int .i64 Wd, .int .i64 Ht, .slice sX.A sX.xs.length sX.k]) [⟨w.heap.size, 24, [.int .i64 Wd, .int .i64 Ht, .slice B xs.length c]⟩, ⟨gO, 27, tsO.flatMap (encT Wd Ht) ++ restO⟩, ⟨g9, 27, [.int .i64 Wd, .int .i64 Ht, .slice sL.A sL.xs.length sL.k]⟩, ⟨g12, 27, [.int .i64 Wd, .int .i64 Ht, .slice sX.A sX.xs.length sX.k]⟩] := HE.out.putF 3 rfl rfl
                    have HB' := putL_below (show w.heap.size ≤ g12 from G12.out) [.int .i64 Wd, .int .i64 Ht, .slice sX.A sX.xs.length sX.k] _ 0 HB.out
                    replace OKO := Hd.mk (OKO.out.putB (vs := [.int .i64 Wd, .int .i64 Ht, .slice sX.A sX.xs.length sX.k]) (o := 0) (HE.out.get 3 rfl))
                    replace OKL := Hd.mk (OKL.out.putB (vs := [.int .i64 Wd, .int .i64 Ht, .slice sX.A sX.xs.length sX.k]) (o := 0) (HE.out.get 3 rfl))
                    generalize putL X1 g12 0 [.int .i64 Wd, .int .i64 Ht, .slice sX.A sX.xs.length sX.k] = X2 at *
                    replace HE := Hd.mk HE'
                    replace HB := Hd.mk HB'
                    clear HE' HB'
                    by_cases h20 : 20 < i
                    · skip
                      go_upto_region 11 with fail
                      refine wp_region_vd 2 [69, 70] [0, 1] [] 84 [.int .i64 0, .int .i64 0] [isV (.int .i64 (((i : Nat) : Int))), isV (.bool true)] (by rfl) alloc_Z ?_ ?_
                      · intro qi qh qA aa wx hb hs hd
                        match qi, qh, qA with
                        | 0, _, _ => exact .inl ⟨rfl, op_mv rfl (hs 11 rfl)⟩
                        | 1, _, _ => exact .inl ⟨rfl, pure_b (bool_eq (decide_eq_true (by omega))) (⟨_, op_gtrI rfl (hd 0 rfl) rfl, rfl⟩)⟩
                        | qi + 2, h, _ => omega
                      · intro vs X3 hb hv hal hne
                        have HL0 := Hd.mk (HE.out.lt)
                        have HBW := HB
                        replace HB := Hd.mk (bel_then HB.out hb)
                        replace HE : Hd (Env X3 [⟨w.heap.size, 24, [.int .i64 Wd, .int .i64 Ht, .slice B xs.length c]⟩, ⟨gO, 27, tsO.flatMap (encT Wd Ht) ++ restO⟩, ⟨g9, 27, [.int .i64 Wd, .int .i64 Ht, .slice sL.A sL.xs.length sL.k]⟩, ⟨g12, 27, [.int .i64 Wd, .int .i64 Ht, .slice sX.A sX.xs.length sX.k]⟩]) := ⟨HE.out.to hb⟩
                        have HLS := HL0
                        replace OKO := Hd.mk (OKO.out.to hb)
                        replace OKL := Hd.mk (OKL.out.to hb)
                        have e70 : vs 70 = .bool true := hv 1 (by decide) rfl
                        simp only [putAll, List.foldl_cons, List.foldl_nil, Act.put, List.setIfInBounds_toArray, List.set_cons_succ, List.set_cons_zero, List.drop_succ_cons, List.drop_zero, e70]
                        generalize vs 69 = s69
                        clear hv hal hne hb HL0 HBW HLS e70
                        go_upto_region 16 with fail
                        refine wp_region_vd 1 [89] [] [] 84 [.int .i64 0, .int .i64 0] [isV (.bool true)] (by rfl) alloc_Z ?_ ?_
                        · intro qi qh qA aa wx hb hs hd
                          match qi, qh, qA with
                          | 0, _, _ => exact .inl ⟨rfl, op_call0 rfl rfl Try.call18 (awake_got _)⟩
                          | qi + 1, h, _ => omega
                        · intro vs X4 hb hv hal hne
                          have HL0 := Hd.mk (HE.out.lt)
                          have HBW := HB
                          replace HB := Hd.mk (bel_then HB.out hb)
                          replace HE : Hd (Env X4 [⟨w.heap.size, 24, [.int .i64 Wd, .int .i64 Ht, .slice B xs.length c]⟩, ⟨gO, 27, tsO.flatMap (encT Wd Ht) ++ restO⟩, ⟨g9, 27, [.int .i64 Wd, .int .i64 Ht, .slice sL.A sL.xs.length sL.k]⟩, ⟨g12, 27, [.int .i64 Wd, .int .i64 Ht, .slice sX.A sX.xs.length sX.k]⟩]) := ⟨HE.out.to hb⟩
                          have HLS := HL0
                          replace OKO := Hd.mk (OKO.out.to hb)
                          replace OKL := Hd.mk (OKL.out.to hb)
                          have e89 : vs 89 = .bool true := hv 0 (by decide) rfl
                          simp only [putAll, List.foldl_cons, List.foldl_nil, Act.put, List.setIfInBounds_toArray, List.set_cons_succ, List.set_cons_zero, List.drop_succ_cons, List.drop_zero, e89]
                          clear hv hal hne hb HL0 HBW HLS e89
                          go_wp2_with fail
                          go_ret
                          exact ⟨_, rfl, HB.out, rfl⟩
                    · skip
                      go_upto_region 11 with fail
                      refine wp_region_vd 2 [69, 70] [0, 1] [] 84 [.int .i64 0, .int .i64 0] [isV (.int .i64 (((i : Nat) : Int))), isV (.bool false)] (by rfl) alloc_Z ?_ ?_
                      · intro qi qh qA aa wx hb hs hd
                        match qi, qh, qA with
                        | 0, _, _ => exact .inl ⟨rfl, op_mv rfl (hs 11 rfl)⟩
                        | 1, _, _ => exact .inl ⟨rfl, pure_b (bool_eq (decide_eq_false (by omega))) (⟨_, op_gtrI rfl (hd 0 rfl) rfl, rfl⟩)⟩
                        | qi + 2, h, _ => omega
                      · intro vs X3 hb hv hal hne
                        have HL0 := Hd.mk (HE.out.lt)
                        have HBW := HB
                        replace HB := Hd.mk (bel_then HB.out hb)
                        replace HE : Hd (Env X3 [⟨w.heap.size, 24, [.int .i64 Wd, .int .i64 Ht, .slice B xs.length c]⟩, ⟨gO, 27, tsO.flatMap (encT Wd Ht) ++ restO⟩, ⟨g9, 27, [.int .i64 Wd, .int .i64 Ht, .slice sL.A sL.xs.length sL.k]⟩, ⟨g12, 27, [.int .i64 Wd, .int .i64 Ht, .slice sX.A sX.xs.length sX.k]⟩]) := ⟨HE.out.to hb⟩
                        have HLS := HL0
                        replace OKO := Hd.mk (OKO.out.to hb)
                        replace OKL := Hd.mk (OKL.out.to hb)
                        have e70 : vs 70 = .bool false := hv 1 (by decide) rfl
                        simp only [putAll, List.foldl_cons, List.foldl_nil, Act.put, List.setIfInBounds_toArray, List.set_cons_succ, List.set_cons_zero, List.drop_succ_cons, List.drop_zero, e70]
                        generalize vs 69 = s69
                        clear hv hal hne hb HL0 HBW HLS e70
                        have HVX := Hd.mk (orb_valid HV.out HXM.out)
                        have HEY := Hd.mk (orb_least HGP.out HV.out HXM.out)
                        go_upto_region 12 with fail
                        refine wp_region_vs 8 [72, 73, 74, 75, 71, 76, 77, 13] [0, 4, 5, 6] [7] 27 [.int .i64 0, .int .i64 0, .slice none 0 0] [isV (.slice A ms.length k), isSs w.heap.size (ms), isV (.agg #[.int .i64 Wd, .int .i64 Ht, .slice sX.A sX.xs.length sX.k]), isP (okS Wd Ht (leastL Wd Ht sX.xs ms)) (isV (.int .i64 0)), isP (okS Wd Ht (leastL Wd Ht sX.xs ms)) (isV (.int .i64 0)), okS Wd Ht (leastL Wd Ht sX.xs ms), isV (.int .i64 0), SP.any] (by kernel_rfl) (by kernel_rfl) (by kernel_rfl) (by rfl) alloc_T (fun d v c a w h => by cases d <;> exact h) ?_ ?_
                        · intro qi qh qA aa wx hb hs hd
                          match qi, qh, qA with
                          | 0, _, _ => exact op_mv rfl (hs 0 rfl)
                          | 1, _, _ => exact op_call1 rfl rfl Try.call30 (by rw [(show aa.eval (.tmp 72) = .slice A ms.length k from (hd 0 rfl))]; exact got_ss (Nat.le_trans HB.out.size hb.size) (moves_all (HRM.out.to (bel_then HB.out hb)) (by omega)))
                          | 2, _, _ => exact op_ldT rfl rfl (hs 12 rfl) ((HE.out.to hb).get 3 rfl)
                          | 3, _, _ => exact op_call2 rfl rfl Try.call46 (by obtain ⟨A', k', e, r, _⟩ := row_reads (hd 1 rfl); rw [show aa.eval (.tmp 73) = _ from e, show aa.eval (.tmp 74) = _ from hd 2 rfl]; exact Least_ok Wd Ht A' k' ms sX.A sX.k sX.xs _ r (by omega) ((OKO.out sX (List.mem_of_getElem? HSX.out)).1.1.to hb) HVX.out HG.out)
                          | 4, _, _ => exact op_mv rfl (hd 3 rfl)
                          | 5, _, _ => exact op_fst rfl (hd 4 rfl)
                          | 6, _, _ => exact op_snd rfl (hd 4 rfl)
                          | 7, _, h => cases h
                          | qi + 8, h, _ => omega
                        · intro vs X4 hb hv hal hne
                          have HL0 := Hd.mk (HE.out.lt)
                          have HBW := HB
                          replace HB := Hd.mk (bel_then HB.out hb)
                          replace HE : Hd (Env X4 [⟨w.heap.size, 24, [.int .i64 Wd, .int .i64 Ht, .slice B xs.length c]⟩, ⟨gO, 27, tsO.flatMap (encT Wd Ht) ++ restO⟩, ⟨g9, 27, [.int .i64 Wd, .int .i64 Ht, .slice sL.A sL.xs.length sL.k]⟩, ⟨g12, 27, [.int .i64 Wd, .int .i64 Ht, .slice sX.A sX.xs.length sX.k]⟩]) := ⟨HE.out.to hb⟩
                          have HLS := HL0
                          replace OKO := Hd.mk (OKO.out.to hb)
                          replace OKL := Hd.mk (OKL.out.to hb)
                          obtain ⟨sY, hxY, e76, okY⟩ : (okS Wd Ht (leastL Wd Ht sX.xs ms)).p (vs 76) X4 := hv 5 (by decide) rfl
                          have HXY := Hd.mk hxY
                          have OKY := Hd.mk (OkT.one okY)
                          clear hxY okY
                          have e77 : vs 77 = .int .i64 0 := hv 6 (by decide) rfl
                          obtain ⟨g13, e13, l13, b13⟩ : ∃ g, vs 13 = .pointer (some ⟨g, 0, none⟩) ∧ _ := hal 7 rfl
                          replace HE : Hd (Env X4 [⟨w.heap.size, 24, [.int .i64 Wd, .int .i64 Ht, .slice B xs.length c]⟩, ⟨gO, 27, tsO.flatMap (encT Wd Ht) ++ restO⟩, ⟨g9, 27, [.int .i64 Wd, .int .i64 Ht, .slice sL.A sL.xs.length sL.k]⟩, ⟨g12, 27, [.int .i64 Wd, .int .i64 Ht, .slice sX.A sX.xs.length sX.k]⟩, ⟨g13, 27, [.int .i64 0, .int .i64 0, .slice none 0 0]⟩]) := ⟨Env.addne (e := ⟨g13, 27, [.int .i64 0, .int .i64 0, .slice none 0 0]⟩) HE.out b13 (fun e' he => Nat.ne_of_lt (Nat.lt_of_lt_of_le (HL0.out e' he) l13))⟩
                          have G13 : Hd (w.heap.size ≤ g13) := ⟨Nat.le_trans HBW.out.size l13⟩
                          simp only [putAll, List.foldl_cons, List.foldl_nil, Act.put, List.setIfInBounds_toArray, List.set_cons_succ, List.set_cons_zero, List.drop_succ_cons, List.drop_zero, e76, e77, e13]
                          generalize vs 72 = s72
                          generalize vs 73 = s73
                          generalize vs 74 = s74
                          generalize vs 75 = s75
                          generalize vs 71 = s71
                          clear hv hal hne hb HL0 HBW HLS e76 e77 e13 l13 b13
                          refine wpList_st rfl rfl rfl rfl rfl (sto_T (HE.out.get 4 rfl)) ?_
                          have HE' : Env (putL X4 g13 0 [.int .i64 Wd, .int .i64 Ht, .slice sY.A sY.xs.length sY.k]) [⟨w.heap.size, 24, [.int .i64 Wd, .int .i64 Ht, .slice B xs.length c]⟩, ⟨gO, 27, tsO.flatMap (encT Wd Ht) ++ restO⟩, ⟨g9, 27, [.int .i64 Wd, .int .i64 Ht, .slice sL.A sL.xs.length sL.k]⟩, ⟨g12, 27, [.int .i64 Wd, .int .i64 Ht, .slice sX.A sX.xs.length sX.k]⟩, ⟨g13, 27, [.int .i64 Wd, .int .i64 Ht, .slice sY.A sY.xs.length sY.k]⟩] := HE.out.putF 4 rfl rfl
                          have HB' := putL_below (show w.heap.size ≤ g13 from G13.out) [.int .i64 Wd, .int .i64 Ht, .slice sY.A sY.xs.length sY.k] _ 0 HB.out
                          replace OKO := Hd.mk (OKO.out.putB (vs := [.int .i64 Wd, .int .i64 Ht, .slice sY.A sY.xs.length sY.k]) (o := 0) (HE.out.get 4 rfl))
                          replace OKL := Hd.mk (OKL.out.putB (vs := [.int .i64 Wd, .int .i64 Ht, .slice sY.A sY.xs.length sY.k]) (o := 0) (HE.out.get 4 rfl))
                          replace OKY := Hd.mk (OKY.out.putB (vs := [.int .i64 Wd, .int .i64 Ht, .slice sY.A sY.xs.length sY.k]) (o := 0) (HE.out.get 4 rfl))
                          generalize putL X4 g13 0 [.int .i64 Wd, .int .i64 Ht, .slice sY.A sY.xs.length sY.k] = X5 at *
                          replace HE := Hd.mk HE'
                          replace HB := Hd.mk HB'
                          clear HE' HB'
                          go_upto_region 13 with fail
                          refine wp_region_vg 10 [78, 79, 80, 81, 82, 83, 84, 85, 86, 87] [0, 1, 2, 8, 9] [] 84 [.int .i64 0, .int .i64 0] [isV (.int .i64 0), isV (.bool false), isV (.bool false), isV (.agg #[.int .i64 Wd, .int .i64 Ht, .slice sY.A sY.xs.length sY.k]), isV (.agg #[.int .i64 Wd, .int .i64 Ht, .slice sY.A sY.xs.length sY.k]), isV (.agg #[.int .i64 Wd, .int .i64 Ht, .slice sL.A sL.xs.length sL.k]), isV (.agg #[.int .i64 Wd, .int .i64 Ht, .slice sL.A sL.xs.length sL.k]), isV (.bool true), isV (.bool false), isV (.bool false)] (by kernel_rfl) (by kernel_rfl) (by kernel_rfl) (by rfl) alloc_Z (fun d v c a w h => by cases d <;> exact h) ?_ ?_
                          · intro qi qh qA aa wx hb hs hd
                            match qi, qh, qA with
                            | 0, _, _ => exact .inl ⟨rfl, op_mv rfl (hs 14 rfl)⟩
                            | 1, _, _ => exact .inl ⟨rfl, pure_b (bool_eq (by decide)) (⟨_, op_neqE rfl (hd 0 rfl) rfl, rfl⟩)⟩
                            | 2, _, _ => exact .inl ⟨rfl, op_mv rfl (hd 1 rfl)⟩
                            | 3, _, _ => exact .inl ⟨⟨rfl, .inl (hd 2 rfl)⟩, op_ldT rfl rfl (hs 13 rfl) ((HE.out.to hb).get 4 rfl)⟩
                            | 4, _, _ => exact .inl ⟨⟨rfl, .inl (hd 2 rfl)⟩, op_call1 rfl rfl Try.call21 (by rw [(show aa.eval (.tmp 81) = .agg #[.int .i64 Wd, .int .i64 Ht, .slice sY.A sY.xs.length sY.k] from (hd 3 rfl))]; exact own_got Wd Ht sY.A sY.xs.length sY.k _)⟩
                            | 5, _, _ => exact .inl ⟨⟨rfl, .inl (hd 2 rfl)⟩, op_ldT rfl rfl (hs 9 rfl) ((HE.out.to hb).get 2 rfl)⟩
                            | 6, _, _ => exact .inl ⟨⟨rfl, .inl (hd 2 rfl)⟩, op_call1 rfl rfl Try.call21 (by rw [(show aa.eval (.tmp 83) = .agg #[.int .i64 Wd, .int .i64 Ht, .slice sL.A sL.xs.length sL.k] from (hd 5 rfl))]; exact own_got Wd Ht sL.A sL.xs.length sL.k _)⟩
                            | 7, _, _ => exact .inl ⟨⟨rfl, .inl (hd 2 rfl)⟩, op_call2 rfl rfl Try.call20 (by rw [show aa.eval (.tmp 82) = _ from hd 4 rfl, show aa.eval (.tmp 84) = _ from hd 6 rfl]; exact same_yes Wd Ht (leastL Wd Ht xs ms) HLN.out _ _ _ (rd_ok ((OKY.out sY (List.mem_singleton.2 rfl)).to hb) (by rw [HXY.out, HEY.out])) (rd_ok ((OKL.out sL (List.mem_singleton.2 rfl)).to hb) HXL.out))⟩
                            | 8, _, _ => exact .inl ⟨⟨rfl, .inl (hd 2 rfl)⟩, ⟨_, op_not rfl (hd 7 rfl), rfl⟩⟩
                            | 9, _, _ => exact .inl ⟨rfl, ⟨_, op_pickF rfl (hd 2 rfl) (hd 8 rfl), rfl⟩⟩
                            | qi + 10, h, _ => omega
                          · intro vs X6 hb hv hal hne
                            have HL0 := Hd.mk (HE.out.lt)
                            have HBW := HB
                            replace HB := Hd.mk (bel_then HB.out hb)
                            replace HE : Hd (Env X6 [⟨w.heap.size, 24, [.int .i64 Wd, .int .i64 Ht, .slice B xs.length c]⟩, ⟨gO, 27, tsO.flatMap (encT Wd Ht) ++ restO⟩, ⟨g9, 27, [.int .i64 Wd, .int .i64 Ht, .slice sL.A sL.xs.length sL.k]⟩, ⟨g12, 27, [.int .i64 Wd, .int .i64 Ht, .slice sX.A sX.xs.length sX.k]⟩, ⟨g13, 27, [.int .i64 Wd, .int .i64 Ht, .slice sY.A sY.xs.length sY.k]⟩]) := ⟨HE.out.to hb⟩
                            have HLS := HL0
                            replace OKO := Hd.mk (OKO.out.to hb)
                            replace OKL := Hd.mk (OKL.out.to hb)
                            replace OKY := Hd.mk (OKY.out.to hb)
                            have e87 : vs 87 = .bool false := hv 9 (by decide) rfl
                            simp only [putAll, List.foldl_cons, List.foldl_nil, Act.put, List.setIfInBounds_toArray, List.set_cons_succ, List.set_cons_zero, List.drop_succ_cons, List.drop_zero, e87]
                            generalize vs 78 = s78
                            generalize vs 79 = s79
                            generalize vs 80 = s80
                            generalize vs 81 = s81
                            generalize vs 82 = s82
                            generalize vs 83 = s83
                            generalize vs 84 = s84
                            generalize vs 85 = s85
                            generalize vs 86 = s86
                            clear hv hal hne hb HL0 HBW HLS e87
                            go_wp2_with fail
                            go_roundw
                            case rel => exact ⟨i + 1, by omega, by omega, by go_num, Env.front (L := [⟨w.heap.size, 24, [.int .i64 Wd, .int .i64 Ht, .slice B xs.length c]⟩, ⟨gO, 27, tsO.flatMap (encT Wd Ht) ++ restO⟩, ⟨g9, 27, [.int .i64 Wd, .int .i64 Ht, .slice sL.A sL.xs.length sL.k]⟩]) HE.out, OKO.out, OKL.out, HB.out⟩
                            case measure => simp [intOf]; omega
                · skip
                  go_upto_region 16 with fail
                  refine wp_region_vd 1 [89] [] [] 84 [.int .i64 0, .int .i64 0] [isV (.bool true)] (by rfl) alloc_Z ?_ ?_
                  · intro qi qh qA aa wx hb hs hd
                    match qi, qh, qA with
                    | 0, _, _ => exact .inl ⟨rfl, op_call0 rfl rfl Try.call18 (awake_got _)⟩
                    | qi + 1, h, _ => omega
                  · intro vs X1 hb hv hal hne
                    have HL0 := Hd.mk (HE.out.lt)
                    have HBW := HB
                    replace HB := Hd.mk (bel_then HB.out hb)
                    replace HE : Hd (Env X1 [⟨w.heap.size, 24, [.int .i64 Wd, .int .i64 Ht, .slice B xs.length c]⟩, ⟨gO, 27, tsO.flatMap (encT Wd Ht) ++ restO⟩, ⟨g9, 27, [.int .i64 Wd, .int .i64 Ht, .slice sL.A sL.xs.length sL.k]⟩]) := ⟨HE.out.to hb⟩
                    have HLS := HL0
                    replace OKO := Hd.mk (OKO.out.to hb)
                    replace OKL := Hd.mk (OKL.out.to hb)
                    have e89 : vs 89 = .bool true := hv 0 (by decide) rfl
                    simp only [putAll, List.foldl_cons, List.foldl_nil, Act.put, List.setIfInBounds_toArray, List.set_cons_succ, List.set_cons_zero, List.drop_succ_cons, List.drop_zero, e89]
                    clear hv hal hne hb HL0 HBW HLS e89
                    go_wp2_with fail
                    go_ret
                    exact ⟨_, rfl, HB.out, rfl⟩
end Go.Proofs.Ytddbmckbankmeaa
set_option linter.unusedVariables false
namespace Go.Proofs.Ytddbmckbankmeaa
open Go.RowKit
theorem StampStabilizer_walk (l : RMs) (s : RSt) (w : World) (hl : l.at_ w) (hs : s.at_ w) : Calls Try.prog 12 #[l.v, s.v] w fun e w' => e = .returned (.bool true) ∧ Below w.heap.size w w' := by
  obtain ⟨A, k, ms⟩ := l
  obtain ⟨hr, hn⟩ := hl
  obtain ⟨W, H, B, c, xs⟩ := s
  obtain ⟨hri, hlk, hB⟩ := hs
  refine Calls.mono ?_ (show ∀ e w', Got w (isV (.bool true)).p e w' → _ from fun e w' ⟨v, he, hb, hv⟩ => ⟨by rw [he, show v = .bool true from hv], hb⟩)
  cases h : (validB W H (xs.take 70) && gB W H (ms.take 521))
  · exact SStab_no W H A k ms B c xs w hr hn hri hlk hB h
  · rw [Bool.and_eq_true, valid_take] at h
    have ht := gp_take (valid_size h.1) h.2
    rw [ht] at h
    exact SStab_yes W H A k ms B c xs w hr hn hri hlk hB h.1 h.2
end Go.Proofs.Ytddbmckbankmeaa
