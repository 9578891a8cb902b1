/- Part 11 of the texts behind this claim. -/
import Derived.Test.YtddbmckbankmeaaKs10
set_option linter.unusedVariables false
set_option linter.unusedSimpArgs false
namespace Go.Proofs.Ytddbmckbankmeaa
open Go.RowKit
def plv (W H : Int) (A : Option Addr) (l k : Nat) (n : Int) (b : Nat) : Value := .agg #[.int .i64 W, .int .i64 H, .slice A l k, .int .i64 n, .func (.func 82) #[] #[.pointer (some ⟨b, 0, none⟩)]]
def isPl (lo : Nat) (W H : Int) (A : Option Addr) (l k : Nat) (n : Int) : SP := ⟨fun v w => ∃ b, v = plv W H A l k n b ∧ lo ≤ b ∧ Blk w b 27 [.int .i64 W, .int .i64 H, .slice A l k], fun v w w' ⟨b, h1, h2, h3⟩ hb => ⟨b, h1, h2, h3.to hb⟩⟩
theorem got_pl {P : Program} {f lo lo' : Nat} {vs : Array Value} {w : World} {W H : Int} {A : Option Addr} {l k : Nat} {n : Int} (h : lo ≤ lo') (hc : Calls P f vs w (Got w (isPl lo' W H A l k n).p)) : Calls P f vs w (Got w (isPl lo W H A l k n).p) :=
  hc.mono fun e w' ⟨v, h1, h2, b, h3, h4, h5⟩ => ⟨v, h1, h2, b, h3, Nat.le_trans h h4, h5⟩
set_option maxRecDepth 100000 in
set_option maxHeartbeats 1000000 in
theorem plane1_got (Wd Ht : Int) (ad : Addr) (k : Nat) (xs : List Int) (b : Nat) (x y : Int) (hW : 1 ≤ Wd ∧ Wd ≤ 6) (hH : 1 ≤ Ht ∧ Ht ≤ 6) (hx : -1000 ≤ x ∧ x ≤ 1000) (hy : -1000 ≤ y ∧ y ≤ 1000) (w : World) (hri : RI w (some ad) xs) (hl : (xs.length : Int) = Wd * Ht) (hblk : Blk w b 27 [.int .i64 Wd, .int .i64 Ht, .slice (some ad) xs.length k]) :
    Calls Try.prog 82 #[.int .i64 x, .int .i64 y, .pointer (some ⟨b, 0, none⟩)] w (Got w (isV (.int .i64 (colF Wd Ht xs x y))).p) := by
  have HRI := Hd.mk hri
  clear hri
  have hcl := colF_lt hW hH x y
  have hwh := mul_b (a := Wd) (b := Ht) (A := 6) (B := 6) (by omega) (by omega)
  have hlt : ((y % Ht) * Wd + x % Wd).toNat < xs.length := by omega
  go_enter Try.func82, Try.ntmps82
  have HE : Hd (Env w [⟨b, 27, [.int .i64 Wd, .int .i64 Ht, .slice (some ad) xs.length k]⟩]) := ⟨⟨hblk, (fun e' h => by cases h), trivial⟩⟩
  have HB : Hd (Below w.heap.size w w) := ⟨Below.refl _ _⟩
  clear hblk
  go_upto_region 1 with fail
  refine wp_region_vd 8 [7, 8, 9, 10, 11, 6, 12, 13] [2, 3, 5, 6, 7] [] 84 [.int .i64 0, .int .i64 0] [isV (.agg #[.int .i64 Wd, .int .i64 Ht, .slice (some ad) xs.length k]), isV (.agg #[.int .i64 Wd, .int .i64 Ht]), isV (.int .i64 x), isV (.int .i64 y), isP (isV (.int .i64 (x % Wd))) (isV (.int .i64 (y % Ht))), isP (isV (.int .i64 (x % Wd))) (isV (.int .i64 (y % Ht))), isV (.int .i64 (x % Wd)), isV (.int .i64 (y % Ht))] (by rfl) alloc_Z ?_ ?_
  · intro qi qh qA aa wx hb hs hd
    match qi, qh, qA with
    | 0, _, _ => exact .inl ⟨rfl, op_ldT rfl rfl (hs 2 rfl) ((HE.out.to hb).get 0 rfl)⟩
    | 1, _, _ => exact .inl ⟨rfl, op_call1 rfl rfl Try.call50 (by rw [(show aa.eval (.tmp 7) = .agg #[.int .i64 Wd, .int .i64 Ht, .slice (some ad) xs.length k] from (hd 0 rfl))]; exact size_got Wd Ht (some ad) xs.length k _)⟩
    | 2, _, _ => exact .inl ⟨rfl, op_mv rfl (hs 0 rfl)⟩
    | 3, _, _ => exact .inl ⟨rfl, op_mv rfl (hs 1 rfl)⟩
    | 4, _, _ => exact .inl ⟨rfl, op_call3 rfl rfl Try.call59 (by rw [(show aa.eval (.tmp 8) = .agg #[.int .i64 Wd, .int .i64 Ht] from (hd 1 rfl)), (show aa.eval (.tmp 9) = .int .i64 x from (hd 2 rfl)), (show aa.eval (.tmp 10) = .int .i64 y from (hd 3 rfl))]; exact wrap_got Wd Ht x y (by omega) (by omega) (by omega) (by omega) _)⟩
    | 5, _, _ => exact .inl ⟨rfl, op_mv rfl (hd 4 rfl)⟩
    | 6, _, _ => exact .inl ⟨rfl, op_fst rfl (hd 5 rfl)⟩
    | 7, _, _ => exact .inl ⟨rfl, op_snd rfl (hd 5 rfl)⟩
    | qi + 8, h, _ => omega
  · intro vs X1 hb hv hal hne
    have HL0 := Hd.mk (HE.out.lt)
    have HBW := HB
    replace HB := Hd.mk (bel_then HB.out hb)
    replace HE : Hd (Env X1 [⟨b, 27, [.int .i64 Wd, .int .i64 Ht, .slice (some ad) xs.length k]⟩]) := ⟨HE.out.to hb⟩
    have HLS := HL0
    have e12 : vs 12 = .int .i64 (x % Wd) := hv 6 (by decide) rfl
    have e13 : vs 13 = .int .i64 (y % Ht) := hv 7 (by decide) rfl
    simp only [putAll, List.foldl_cons, List.foldl_nil, Act.put, List.setIfInBounds_toArray, List.set_cons_succ, List.set_cons_zero, List.drop_succ_cons, List.drop_zero, e12, e13]
    generalize vs 7 = s7
    generalize vs 8 = s8
    generalize vs 9 = s9
    generalize vs 10 = s10
    generalize vs 11 = s11
    generalize vs 6 = s6
    clear hv hal hne hb HL0 HBW HLS e12 e13
    go_upto_region 2 with fail
    refine wp_region_vd 10 [14, 15, 16, 17, 18, 19, 20, 21, 22, 23] [0, 2, 3, 5, 6, 7] [] 84 [.int .i64 0, .int .i64 0] [isV (.pointer (some ⟨b, 2, none⟩)), isV (.slice (some ad) xs.length k), isV (.int .i64 (y % Ht)), isV (.pointer (some ⟨b, 0, none⟩)), isV (.int .i64 Wd), isV (.int .i64 ((y % Ht) * Wd)), isV (.int .i64 (x % Wd)), isV (.int .i64 (((y % Ht) * Wd) + (x % Wd))), isV (.pointer (some (Addr.add ad (((y % Ht) * Wd) + (x % Wd)).toNat))), isV (.int .i64 (colF Wd Ht xs x y))] (by rfl) alloc_Z ?_ ?_
    · intro qi qh qA aa wx hb hs hd
      match qi, qh, qA with
      | 0, _, _ => exact .inl ⟨rfl, ⟨_, op_faT2 rfl (hs 2 rfl), rfl⟩⟩
      | 1, _, _ => exact .inl ⟨rfl, op_ldS rfl rfl (hd 0 rfl) ((HE.out.to hb).cell 0 2 rfl rfl)⟩
      | 2, _, _ => exact .inl ⟨rfl, op_mv rfl (hs 1 rfl)⟩
      | 3, _, _ => exact .inl ⟨rfl, ⟨_, op_faT0 rfl (hs 2 rfl), rfl⟩⟩
      | 4, _, _ => exact .inl ⟨rfl, op_ldI rfl rfl (hd 3 rfl) ((HE.out.to hb).cell 0 0 rfl rfl)⟩
      | 5, _, _ => exact .inl ⟨rfl, ⟨_, op_mul (by unfold Fit; omega) rfl (hd 2 rfl) (hd 4 rfl), rfl⟩⟩
      | 6, _, _ => exact .inl ⟨rfl, op_mv rfl (hs 0 rfl)⟩
      | 7, _, _ => exact .inl ⟨rfl, ⟨_, op_add (by unfold Fit; omega) rfl (hd 5 rfl) (hd 6 rfl), rfl⟩⟩
      | 8, _, _ => exact .inl ⟨rfl, op_run rfl (op_idx (by omega) (by omega) rfl (hd 1 rfl) (hd 7 rfl) _) rfl⟩
      | 9, _, _ => exact .inl ⟨rfl, op_ldAt rfl rfl (hd 8 rfl) ((HRI.out.to (bel_then HB.out hb)).cellq hlt)⟩
      | qi + 10, h, _ => omega
    · intro vs X2 hb hv hal hne
      have HL0 := Hd.mk (HE.out.lt)
      have HBW := HB
      replace HB := Hd.mk (bel_then HB.out hb)
      replace HE : Hd (Env X2 [⟨b, 27, [.int .i64 Wd, .int .i64 Ht, .slice (some ad) xs.length k]⟩]) := ⟨HE.out.to hb⟩
      have HLS := HL0
      have e23 : vs 23 = .int .i64 (colF Wd Ht xs x y) := hv 9 (by decide) rfl
      simp only [putAll, List.foldl_cons, List.foldl_nil, Act.put, List.setIfInBounds_toArray, List.set_cons_succ, List.set_cons_zero, List.drop_succ_cons, List.drop_zero, e23]
      generalize vs 14 = s14
      generalize vs 15 = s15
      generalize vs 16 = s16
      generalize vs 17 = s17
      generalize vs 18 = s18
      generalize vs 19 = s19
      generalize vs 20 = s20
      generalize vs 21 = s21
      generalize vs 22 = s22
      clear hv hal hne hb HL0 HBW HLS e23
      go_wp2_with fail
      go_ret
      exact ⟨_, rfl, HB.out, rfl⟩
set_option maxRecDepth 100000 in
set_option maxHeartbeats 1000000 in
theorem plane_got (Wd Ht : Int) (A : Option Addr) (k : Nat) (xs : List Int) (hW : 1 ≤ Wd ∧ Wd ≤ 6) (hH : 1 ≤ Ht ∧ Ht ≤ 6) (w : World) :
    Calls Try.prog 66 #[.agg #[.int .i64 Wd, .int .i64 Ht, .slice A xs.length k]] w (Got w (isPl w.heap.size Wd Ht A xs.length k (perN Wd Ht)).p) := by
  have HW := Hd.mk hW
  have HH := Hd.mk hH
  go_enter Try.func66, Try.ntmps66
  go_upto_region 1 with fail
  obtain ⟨W0, hW0⟩ : ∃ W : World, W = (w.alloc (.cells #[.int .i64 Wd, .int .i64 Ht, .slice A xs.length k] 27)).alloc (.cells #[.int .i64 0, .int .i64 0, .slice none 0 0, .int .i64 0, .nilFunc] 104) := ⟨_, rfl⟩
  rw [← hW0]
  obtain ⟨he, hb⟩ := env_two hW0
  have HE := Hd.mk he
  have HB := Hd.mk hb
  clear he hb hW0
  refine wp_region_vd 2 [4, 5] [0] [] 84 [.int .i64 0, .int .i64 0] [isV (.pointer (some ⟨w.heap.size, 0, none⟩)), isV (.int .i64 Wd)] (by rfl) alloc_Z ?_ ?_
  · intro qi qh qA aa wx hb hs hd
    match qi, qh, qA with
    | 0, _, _ => exact .inl ⟨rfl, ⟨_, op_faT0 rfl (hs 1 rfl), rfl⟩⟩
    | 1, _, _ => exact .inl ⟨rfl, op_ldI rfl rfl (hd 0 rfl) ((HE.out.to hb).cell 0 0 rfl rfl)⟩
    | qi + 2, h, _ => omega
  · intro vs X1 hb hv hal hne
    have HL0 := Hd.mk (HE.out.lt)
    have HBW := HB
    replace HB := Hd.mk (bel_then HB.out hb)
    replace HE : Hd (Env X1 [⟨w.heap.size, 27, [.int .i64 Wd, .int .i64 Ht, .slice A xs.length k]⟩, ⟨w.heap.size + 1, 104, [.int .i64 0, .int .i64 0, .slice none 0 0, .int .i64 0, .nilFunc]⟩]) := ⟨HE.out.to hb⟩
    have HLS := HL0
    have e5 : vs 5 = .int .i64 Wd := hv 1 (by decide) rfl
    simp only [putAll, List.foldl_cons, List.foldl_nil, Act.put, List.setIfInBounds_toArray, List.set_cons_succ, List.set_cons_zero, List.drop_succ_cons, List.drop_zero, e5]
    generalize vs 4 = s4
    clear hv hal hne hb HL0 HBW HLS e5
    go_wp2_with fail
    go_loopw [3] (fun s3 wr => ∃ (q : Nat) (m : Int), s3 = .int .i64 m ∧ (Env wr [⟨w.heap.size, 27, [.int .i64 Wd, .int .i64 Ht, .slice A xs.length k]⟩, ⟨w.heap.size + 1, 104, [.int .i64 0, .int .i64 0, .slice none 0 0, .int .i64 0, .nilFunc]⟩] ∧ Below w.heap.size w wr) ∧ PerAt Wd Ht q m) (fun s3 _ => 100 - (intOf s3).toNat)
    case atStart => exact ⟨0, Wd, rfl, ⟨HE.out, HB.out⟩, PerAt.start⟩
    case round =>
      obtain ⟨q, m, rfl, ⟨he, hb⟩, hp⟩ := hrel
      clear HB HE
      have HB := Hd.mk hb
      have HE : Hd (Env wr [⟨w.heap.size, 27, [.int .i64 Wd, .int .i64 Ht, .slice A xs.length k]⟩, ⟨w.heap.size + 1, 104, [.int .i64 0, .int .i64 0, .slice none 0 0, .int .i64 0, .nilFunc]⟩]) := ⟨he⟩
      clear he hb
      have hm := hp.bound HW.out
      have HP := Hd.mk hp
      clear hp
      have HT := Hd.mk (tmod_nonneg (j := Ht) (show 0 ≤ m by omega))
      by_cases h0 : m % Ht = 0
      · have HN0 := Hd.mk (HP.out.stop h0)
        go_upto_region 2 with fail
        refine wp_region_vd 5 [6, 7, 8, 9, 10] [0, 1, 4] [] 84 [.int .i64 0, .int .i64 0] [isV (.int .i64 m), isV (.pointer (some ⟨w.heap.size, 1, none⟩)), isV (.int .i64 Ht), isV (.int .i64 (m % Ht)), isV (.bool false)] (by rfl) alloc_Z ?_ ?_
        · intro qi qh qA aa wx hb hs hd
          match qi, qh, qA with
          | 0, _, _ => exact .inl ⟨rfl, op_mv rfl (hs 3 rfl)⟩
          | 1, _, _ => exact .inl ⟨rfl, ⟨_, op_faT1 rfl (hs 1 rfl), rfl⟩⟩
          | 2, _, _ => exact .inl ⟨rfl, op_ldI rfl rfl (hd 1 rfl) ((HE.out.to hb).cell 0 1 rfl rfl)⟩
          | 3, _, _ => exact .inl ⟨rfl, wp_b (int_eq HT.out) (op_run rfl (op_rem (by omega) (by unfold Fit; omega) (by omega) rfl (hd 0 rfl) (hd 2 rfl) _) rfl)⟩
          | 4, _, _ => exact .inl ⟨rfl, pure_b (bool_eq (by rw [decide_eq_true h0]; rfl)) (⟨_, op_neqI rfl (hd 3 rfl) rfl, rfl⟩)⟩
          | qi + 5, h, _ => omega
        · intro vs X1 hb hv hal hne
          have HL0 := Hd.mk (HE.out.lt)
          have HBW := HB
          replace HB := Hd.mk (bel_then HB.out hb)
          replace HE : Hd (Env X1 [⟨w.heap.size, 27, [.int .i64 Wd, .int .i64 Ht, .slice A xs.length k]⟩, ⟨w.heap.size + 1, 104, [.int .i64 0, .int .i64 0, .slice none 0 0, .int .i64 0, .nilFunc]⟩]) := ⟨HE.out.to hb⟩
          have HLS := HL0
          have e10 : vs 10 = .bool false := hv 4 (by decide) rfl
          simp only [putAll, List.foldl_cons, List.foldl_nil, Act.put, List.setIfInBounds_toArray, List.set_cons_succ, List.set_cons_zero, List.drop_succ_cons, List.drop_zero, e10]
          generalize vs 6 = s6
          generalize vs 7 = s7
          generalize vs 8 = s8
          generalize vs 9 = s9
          clear hv hal hne hb HL0 HBW HLS e10
          go_upto_region 4 with fail
          refine wp_region_vd 4 [15, 16, 17, 18] [1, 2, 3] [] 84 [.int .i64 0, .int .i64 0] [isV (.agg #[.int .i64 Wd, .int .i64 Ht, .slice A xs.length k]), isV (.int .i64 m), isV (.func (.func 82) #[] #[.pointer (some ⟨w.heap.size, 0, none⟩)]), isV (.agg #[.int .i64 Wd, .int .i64 Ht, .slice A xs.length k, .int .i64 m, .func (.func 82) #[] #[.pointer (some ⟨w.heap.size, 0, none⟩)]])] (by rfl) alloc_Z ?_ ?_
          · intro qi qh qA aa wx hb hs hd
            match qi, qh, qA with
            | 0, _, _ => exact .inl ⟨rfl, op_ldT rfl rfl (hs 1 rfl) ((HE.out.to hb).get 0 rfl)⟩
            | 1, _, _ => exact .inl ⟨rfl, op_mv rfl (hs 3 rfl)⟩
            | 2, _, _ => exact .inl ⟨rfl, ⟨_, op_mkF1 rfl (hs 1 rfl), rfl⟩⟩
            | 3, _, _ => exact .inl ⟨rfl, ⟨_, op_buP rfl (hd 0 rfl) (hd 1 rfl) (hd 2 rfl), rfl⟩⟩
            | qi + 4, h, _ => omega
          · intro vs X2 hb hv hal hne
            have HL0 := Hd.mk (HE.out.lt)
            have HBW := HB
            replace HB := Hd.mk (bel_then HB.out hb)
            replace HE : Hd (Env X2 [⟨w.heap.size, 27, [.int .i64 Wd, .int .i64 Ht, .slice A xs.length k]⟩, ⟨w.heap.size + 1, 104, [.int .i64 0, .int .i64 0, .slice none 0 0, .int .i64 0, .nilFunc]⟩]) := ⟨HE.out.to hb⟩
            have HLS := HL0
            have e18 : vs 18 = .agg #[.int .i64 Wd, .int .i64 Ht, .slice A xs.length k, .int .i64 m, .func (.func 82) #[] #[.pointer (some ⟨w.heap.size, 0, none⟩)]] := hv 3 (by decide) rfl
            simp only [putAll, List.foldl_cons, List.foldl_nil, Act.put, List.setIfInBounds_toArray, List.set_cons_succ, List.set_cons_zero, List.drop_succ_cons, List.drop_zero, e18]
            generalize vs 15 = s15
            generalize vs 16 = s16
            generalize vs 17 = s17
            clear hv hal hne hb HL0 HBW HLS e18
            refine wpList_st rfl rfl rfl rfl rfl (sto_P (HE.out.get 1 rfl)) ?_
            have HE' : Env (putL X2 (w.heap.size + 1) 0 [.int .i64 Wd, .int .i64 Ht, .slice A xs.length k, .int .i64 m, .func (.func 82) #[] #[.pointer (some ⟨w.heap.size, 0, none⟩)]]) [⟨w.heap.size, 27, [.int .i64 Wd, .int .i64 Ht, .slice A xs.length k]⟩, ⟨w.heap.size + 1, 104, [.int .i64 Wd, .int .i64 Ht, .slice A xs.length k, .int .i64 m, .func (.func 82) #[] #[.pointer (some ⟨w.heap.size, 0, none⟩)]]⟩] := HE.out.putF 1 rfl rfl
            have HB' := putL_below (show w.heap.size ≤ w.heap.size + 1 from by omega) [.int .i64 Wd, .int .i64 Ht, .slice A xs.length k, .int .i64 m, .func (.func 82) #[] #[.pointer (some ⟨w.heap.size, 0, none⟩)]] _ 0 HB.out
            generalize putL X2 (w.heap.size + 1) 0 [.int .i64 Wd, .int .i64 Ht, .slice A xs.length k, .int .i64 m, .func (.func 82) #[] #[.pointer (some ⟨w.heap.size, 0, none⟩)]] = X3 at *
            replace HE := Hd.mk HE'
            replace HB := Hd.mk HB'
            clear HE' HB'
            go_wp2_with fail
            have k0a := HE.out.cell 1 0 rfl rfl
            have k0b := HE.out.cell 1 1 rfl rfl
            have k0c := HE.out.cell 1 2 rfl rfl
            have k0d := HE.out.cell 1 3 rfl rfl
            have k0e := HE.out.cell 1 4 rfl rfl
            refine bodyPost_ret (v := .agg #[.int .i64 Wd, .int .i64 Ht, .slice A xs.length k, .int .i64 m, .func (.func 82) #[] #[.pointer (some ⟨w.heap.size, 0, none⟩)]]) (by simp [results, Try.results66, go_sem, k0a, k0b, k0c, k0d, k0e]) rfl ?_
            exact ⟨_, rfl, HB.out, w.heap.size, by rw [HN0.out]; rfl, Nat.le_refl _, HE.out.get 0 rfl⟩
      · skip
        go_upto_region 2 with fail
        refine wp_region_vd 5 [6, 7, 8, 9, 10] [0, 1, 4] [] 84 [.int .i64 0, .int .i64 0] [isV (.int .i64 m), isV (.pointer (some ⟨w.heap.size, 1, none⟩)), isV (.int .i64 Ht), isV (.int .i64 (m % Ht)), isV (.bool true)] (by rfl) alloc_Z ?_ ?_
        · intro qi qh qA aa wx hb hs hd
          match qi, qh, qA with
          | 0, _, _ => exact .inl ⟨rfl, op_mv rfl (hs 3 rfl)⟩
          | 1, _, _ => exact .inl ⟨rfl, ⟨_, op_faT1 rfl (hs 1 rfl), rfl⟩⟩
          | 2, _, _ => exact .inl ⟨rfl, op_ldI rfl rfl (hd 1 rfl) ((HE.out.to hb).cell 0 1 rfl rfl)⟩
          | 3, _, _ => exact .inl ⟨rfl, wp_b (int_eq HT.out) (op_run rfl (op_rem (by omega) (by unfold Fit; omega) (by omega) rfl (hd 0 rfl) (hd 2 rfl) _) rfl)⟩
          | 4, _, _ => exact .inl ⟨rfl, pure_b (bool_eq (by rw [decide_eq_false h0]; rfl)) (⟨_, op_neqI rfl (hd 3 rfl) rfl, rfl⟩)⟩
          | qi + 5, h, _ => omega
        · intro vs X1 hb hv hal hne
          have HL0 := Hd.mk (HE.out.lt)
          have HBW := HB
          replace HB := Hd.mk (bel_then HB.out hb)
          replace HE : Hd (Env X1 [⟨w.heap.size, 27, [.int .i64 Wd, .int .i64 Ht, .slice A xs.length k]⟩, ⟨w.heap.size + 1, 104, [.int .i64 0, .int .i64 0, .slice none 0 0, .int .i64 0, .nilFunc]⟩]) := ⟨HE.out.to hb⟩
          have HLS := HL0
          have e10 : vs 10 = .bool true := hv 4 (by decide) rfl
          simp only [putAll, List.foldl_cons, List.foldl_nil, Act.put, List.setIfInBounds_toArray, List.set_cons_succ, List.set_cons_zero, List.drop_succ_cons, List.drop_zero, e10]
          generalize vs 6 = s6
          generalize vs 7 = s7
          generalize vs 8 = s8
          generalize vs 9 = s9
          clear hv hal hne hb HL0 HBW HLS e10
          go_upto_region 3 with fail
          refine wp_region_vd 4 [11, 12, 13, 14] [0, 1, 3] [] 84 [.int .i64 0, .int .i64 0] [isV (.int .i64 m), isV (.pointer (some ⟨w.heap.size, 0, none⟩)), isV (.int .i64 Wd), isV (.int .i64 (m + Wd))] (by rfl) alloc_Z ?_ ?_
          · intro qi qh qA aa wx hb hs hd
            match qi, qh, qA with
            | 0, _, _ => exact .inl ⟨rfl, op_mv rfl (hs 3 rfl)⟩
            | 1, _, _ => exact .inl ⟨rfl, ⟨_, op_faT0 rfl (hs 1 rfl), rfl⟩⟩
            | 2, _, _ => exact .inl ⟨rfl, op_ldI rfl rfl (hd 1 rfl) ((HE.out.to hb).cell 0 0 rfl rfl)⟩
            | 3, _, _ => exact .inl ⟨rfl, ⟨_, op_add (by unfold Fit; omega) rfl (hd 0 rfl) (hd 2 rfl), rfl⟩⟩
            | qi + 4, h, _ => omega
          · intro vs X2 hb hv hal hne
            have HL0 := Hd.mk (HE.out.lt)
            have HBW := HB
            replace HB := Hd.mk (bel_then HB.out hb)
            replace HE : Hd (Env X2 [⟨w.heap.size, 27, [.int .i64 Wd, .int .i64 Ht, .slice A xs.length k]⟩, ⟨w.heap.size + 1, 104, [.int .i64 0, .int .i64 0, .slice none 0 0, .int .i64 0, .nilFunc]⟩]) := ⟨HE.out.to hb⟩
            have HLS := HL0
            have e14 : vs 14 = .int .i64 (m + Wd) := hv 3 (by decide) rfl
            simp only [putAll, List.foldl_cons, List.foldl_nil, Act.put, List.setIfInBounds_toArray, List.set_cons_succ, List.set_cons_zero, List.drop_succ_cons, List.drop_zero, e14]
            generalize vs 11 = s11
            generalize vs 12 = s12
            generalize vs 13 = s13
            clear hv hal hne hb HL0 HBW HLS e14
            go_wp2_with fail
            go_roundw
            case rel => exact ⟨q + 1, m + Wd, rfl, ⟨HE.out, HB.out⟩, HP.out.step HW.out HH.out h0⟩
            case measure => simp [intOf]; omega
set_option maxRecDepth 100000 in
set_option maxHeartbeats 1000000 in
theorem keeps_got (Wd Ht : Int) (ad : Addr) (k : Nat) (xs : List Int) (b : Nat) (n : Int) (g : Bool) (T : Nat) (a c : Int) (hW : 1 ≤ Wd ∧ Wd ≤ 6) (hH : 1 ≤ Ht ∧ Ht ≤ 6) (ha : -200 ≤ a ∧ a ≤ 200) (hc : -200 ≤ c ∧ c ≤ 200) (w : World) (hri : RI w (some ad) xs) (hl : (xs.length : Int) = Wd * Ht) (hblk : Blk w b 27 [.int .i64 Wd, .int .i64 Ht, .slice (some ad) xs.length k]) (hn1 : 1 ≤ n ∧ n ≤ 30) (hper : Per n (colF Wd Ht xs)) (hT : T < 4) :
    Calls Try.prog 83 #[.agg #[.int .i64 Wd, .int .i64 Ht, .slice (some ad) xs.length k, .int .i64 n, .func (.func 82) #[] #[.pointer (some ⟨b, 0, none⟩)]], .agg #[.int .i64 0, .int .i64 0, .int .i64 (((T : Nat) : Int)), .bool g], .agg #[.int .i64 a, .int .i64 c]] w (Got w (isV (.bool (bP (Sym (colF Wd Ht xs) g T a c)))).p) := by
  have HRI := Hd.mk hri
  have HL := Hd.mk hl
  have HBK := Hd.mk hblk
  have HT4 := Hd.mk hT
  clear hri hblk
  have HW := Hd.mk hW
  have HH := Hd.mk hH
  have HPER := Hd.mk hper
  clear hper
  go_enter Try.func83, Try.ntmps83
  go_upto_region 1 with fail
  obtain ⟨W0, hW0⟩ : ∃ W : World, W = ((w.alloc (.cells #[.int .i64 Wd, .int .i64 Ht, .slice (some ad) xs.length k, .int .i64 n, .func (.func 82) #[] #[.pointer (some ⟨b, 0, none⟩)]] 104)).alloc (.cells #[.int .i64 0, .int .i64 0, .int .i64 (((T : Nat) : Int)), .bool g] 31)).alloc (.cells #[.int .i64 a, .int .i64 c] 130) := ⟨_, rfl⟩
  rw [← hW0]
  obtain ⟨he, hb⟩ := env_three hW0
  have HE := Hd.mk he
  have HB := Hd.mk hb
  clear he hb hW0
  refine wp_region_vd 3 [11, 12, 13] [0, 2] [] 84 [.int .i64 0, .int .i64 0] [isV (.pointer (some ⟨w.heap.size, 3, none⟩)), isV (.int .i64 n), isV (.int .i64 0)] (by rfl) alloc_Z ?_ ?_
  · intro qi qh qA aa wx hb hs hd
    match qi, qh, qA with
    | 0, _, _ => exact .inl ⟨rfl, ⟨_, op_faP1 rfl (hs 3 rfl), rfl⟩⟩
    | 1, _, _ => exact .inl ⟨rfl, op_ldI rfl rfl (hd 0 rfl) ((HE.out.to hb).cell 0 3 rfl rfl)⟩
    | 2, _, _ => exact .inl ⟨rfl, op_mv rfl rfl⟩
    | qi + 3, h, _ => omega
  · intro vs X1 hb hv hal hne
    have HL0 := Hd.mk (HE.out.lt)
    have HBW := HB
    replace HB := Hd.mk (bel_then HB.out hb)
    replace HE : Hd (Env X1 [⟨w.heap.size, 104, [.int .i64 Wd, .int .i64 Ht, .slice (some ad) xs.length k, .int .i64 n, .func (.func 82) #[] #[.pointer (some ⟨b, 0, none⟩)]]⟩, ⟨w.heap.size + 1, 31, [.int .i64 0, .int .i64 0, .int .i64 (((T : Nat) : Int)), .bool g]⟩, ⟨w.heap.size + 1 + 1, 130, [.int .i64 a, .int .i64 c]⟩]) := ⟨HE.out.to hb⟩
    have HLS := HL0
    have e12 : vs 12 = .int .i64 n := hv 1 (by decide) rfl
    have e13 : vs 13 = .int .i64 0 := hv 2 (by decide) rfl
    simp only [putAll, List.foldl_cons, List.foldl_nil, Act.put, List.setIfInBounds_toArray, List.set_cons_succ, List.set_cons_zero, List.drop_succ_cons, List.drop_zero, e12, e13]
    generalize vs 11 = s11
    clear hv hal hne hb HL0 HBW HLS e12 e13
    go_wp2_with fail
    go_loopw [13] (fun sx wr => ∃ x : Nat, (x : Int) ≤ n ∧ sx = .int .i64 (x : Int) ∧ (Env wr [⟨w.heap.size, 104, [.int .i64 Wd, .int .i64 Ht, .slice (some ad) xs.length k, .int .i64 n, .func (.func 82) #[] #[.pointer (some ⟨b, 0, none⟩)]]⟩, ⟨w.heap.size + 1, 31, [.int .i64 0, .int .i64 0, .int .i64 (((T : Nat) : Int)), .bool g]⟩, ⟨w.heap.size + 1 + 1, 130, [.int .i64 a, .int .i64 c]⟩] ∧ Below w.heap.size w wr) ∧ SymR (colF Wd Ht xs) g T a c n x 0) (fun sx _ => n.toNat - (intOf sx).toNat)
    case atStart => exact ⟨0, by omega, rfl, ⟨HE.out, HB.out⟩, SymR.start⟩
    case round =>
      obtain ⟨x, hxn, rfl, ⟨he, hb⟩, hs⟩ := hrel
      clear HB HE
      have HB := Hd.mk hb
      have HE : Hd (Env wr [⟨w.heap.size, 104, [.int .i64 Wd, .int .i64 Ht, .slice (some ad) xs.length k, .int .i64 n, .func (.func 82) #[] #[.pointer (some ⟨b, 0, none⟩)]]⟩, ⟨w.heap.size + 1, 31, [.int .i64 0, .int .i64 0, .int .i64 (((T : Nat) : Int)), .bool g]⟩, ⟨w.heap.size + 1 + 1, 130, [.int .i64 a, .int .i64 c]⟩]) := ⟨he⟩
      clear he hb
      have HS := Hd.mk hs
      clear hs
      by_cases hx : (x : Int) < n
      · skip
        go_upto_region 3 with fail
        refine wp_region_vd 1 [15] [0] [] 84 [.int .i64 0, .int .i64 0] [isV (.int .i64 (((x : Nat) : Int)))] (by rfl) alloc_Z ?_ ?_
        · intro qi qh qA aa wx hb hs hd
          match qi, qh, qA with
          | 0, _, _ => exact .inl ⟨rfl, op_mv rfl (hs 13 rfl)⟩
          | qi + 1, h, _ => omega
        · intro vs X1 hb hv hal hne
          have HL0 := Hd.mk (HE.out.lt)
          have HBW := HB
          replace HB := Hd.mk (bel_then HB.out hb)
          replace HE : Hd (Env X1 [⟨w.heap.size, 104, [.int .i64 Wd, .int .i64 Ht, .slice (some ad) xs.length k, .int .i64 n, .func (.func 82) #[] #[.pointer (some ⟨b, 0, none⟩)]]⟩, ⟨w.heap.size + 1, 31, [.int .i64 0, .int .i64 0, .int .i64 (((T : Nat) : Int)), .bool g]⟩, ⟨w.heap.size + 1 + 1, 130, [.int .i64 a, .int .i64 c]⟩]) := ⟨HE.out.to hb⟩
          have HLS := HL0
          have e15 : vs 15 = .int .i64 (((x : Nat) : Int)) := hv 0 (by decide) rfl
          simp only [putAll, List.foldl_cons, List.foldl_nil, Act.put, List.setIfInBounds_toArray, List.set_cons_succ, List.set_cons_zero, List.drop_succ_cons, List.drop_zero, e15]
          clear hv hal hne hb HL0 HBW HLS e15
          go_upto_region 4 with fail
          refine wp_region_vd 3 [16, 17, 18] [0, 2] [] 84 [.int .i64 0, .int .i64 0] [isV (.pointer (some ⟨w.heap.size, 3, none⟩)), isV (.int .i64 n), isV (.int .i64 0)] (by rfl) alloc_Z ?_ ?_
          · intro qi qh qA aa wx hb hs hd
            match qi, qh, qA with
            | 0, _, _ => exact .inl ⟨rfl, ⟨_, op_faP1 rfl (hs 3 rfl), rfl⟩⟩
            | 1, _, _ => exact .inl ⟨rfl, op_ldI rfl rfl (hd 0 rfl) ((HE.out.to hb).cell 0 3 rfl rfl)⟩
            | 2, _, _ => exact .inl ⟨rfl, op_mv rfl rfl⟩
            | qi + 3, h, _ => omega
          · intro vs X2 hb hv hal hne
            have HL0 := Hd.mk (HE.out.lt)
            have HBW := HB
            replace HB := Hd.mk (bel_then HB.out hb)
            replace HE : Hd (Env X2 [⟨w.heap.size, 104, [.int .i64 Wd, .int .i64 Ht, .slice (some ad) xs.length k, .int .i64 n, .func (.func 82) #[] #[.pointer (some ⟨b, 0, none⟩)]]⟩, ⟨w.heap.size + 1, 31, [.int .i64 0, .int .i64 0, .int .i64 (((T : Nat) : Int)), .bool g]⟩, ⟨w.heap.size + 1 + 1, 130, [.int .i64 a, .int .i64 c]⟩]) := ⟨HE.out.to hb⟩
            have HLS := HL0
            have e17 : vs 17 = .int .i64 n := hv 1 (by decide) rfl
            have e18 : vs 18 = .int .i64 0 := hv 2 (by decide) rfl
            simp only [putAll, List.foldl_cons, List.foldl_nil, Act.put, List.setIfInBounds_toArray, List.set_cons_succ, List.set_cons_zero, List.drop_succ_cons, List.drop_zero, e17, e18]
            generalize vs 16 = s16
            clear hv hal hne hb HL0 HBW HLS e17 e18
            go_wp2_with fail
            go_loopw [18] (fun sy wr => ∃ y : Nat, (y : Int) ≤ n ∧ sy = .int .i64 (y : Int) ∧ (Env wr [⟨w.heap.size, 104, [.int .i64 Wd, .int .i64 Ht, .slice (some ad) xs.length k, .int .i64 n, .func (.func 82) #[] #[.pointer (some ⟨b, 0, none⟩)]]⟩, ⟨w.heap.size + 1, 31, [.int .i64 0, .int .i64 0, .int .i64 (((T : Nat) : Int)), .bool g]⟩, ⟨w.heap.size + 1 + 1, 130, [.int .i64 a, .int .i64 c]⟩] ∧ Below w.heap.size w wr) ∧ SymR (colF Wd Ht xs) g T a c n x y) (fun sy _ => n.toNat - (intOf sy).toNat)
            case atStart => exact ⟨0, by omega, rfl, ⟨HE.out, HB.out⟩, HS.out⟩
            case round =>
              obtain ⟨y, hyn, rfl, ⟨he, hb⟩, hs⟩ := hrel
              clear HB HE
              have HB := Hd.mk hb
              have HE : Hd (Env wr [⟨w.heap.size, 104, [.int .i64 Wd, .int .i64 Ht, .slice (some ad) xs.length k, .int .i64 n, .func (.func 82) #[] #[.pointer (some ⟨b, 0, none⟩)]]⟩, ⟨w.heap.size + 1, 31, [.int .i64 0, .int .i64 0, .int .i64 (((T : Nat) : Int)), .bool g]⟩, ⟨w.heap.size + 1 + 1, 130, [.int .i64 a, .int .i64 c]⟩]) := ⟨he⟩
              clear he hb
              replace HS := Hd.mk hs
              clear hs
              by_cases hy : (y : Int) < n
              · skip
                go_upto_region 6 with fail
                refine wp_region_vd 1 [20] [0] [] 84 [.int .i64 0, .int .i64 0] [isV (.int .i64 (((y : Nat) : Int)))] (by rfl) alloc_Z ?_ ?_
                · intro qi qh qA aa wx hb hs hd
                  match qi, qh, qA with
                  | 0, _, _ => exact .inl ⟨rfl, op_mv rfl (hs 18 rfl)⟩
                  | qi + 1, h, _ => omega
                · intro vs X1 hb hv hal hne
                  have HL0 := Hd.mk (HE.out.lt)
                  have HBW := HB
                  replace HB := Hd.mk (bel_then HB.out hb)
                  replace HE : Hd (Env X1 [⟨w.heap.size, 104, [.int .i64 Wd, .int .i64 Ht, .slice (some ad) xs.length k, .int .i64 n, .func (.func 82) #[] #[.pointer (some ⟨b, 0, none⟩)]]⟩, ⟨w.heap.size + 1, 31, [.int .i64 0, .int .i64 0, .int .i64 (((T : Nat) : Int)), .bool g]⟩, ⟨w.heap.size + 1 + 1, 130, [.int .i64 a, .int .i64 c]⟩]) := ⟨HE.out.to hb⟩
                  have HLS := HL0
                  have e20 : vs 20 = .int .i64 (((y : Nat) : Int)) := hv 0 (by decide) rfl
                  simp only [putAll, List.foldl_cons, List.foldl_nil, Act.put, List.setIfInBounds_toArray, List.set_cons_succ, List.set_cons_zero, List.drop_succ_cons, List.drop_zero, e20]
                  clear hv hal hne hb HL0 HBW HLS e20
                  obtain ⟨tb1, tb2⟩ := trn_bound g (x := (x : Int)) (y := (y : Int)) (b := 30) (by omega) (by omega) T
                  go_upto_region 7 with fail
                  refine wp_region_vd 7 [22, 23, 24, 25, 21, 26, 27] [1, 2, 4, 5, 6] [] 84 [.int .i64 0, .int .i64 0] [isV (.agg #[.int .i64 0, .int .i64 0, .int .i64 (((T : Nat) : Int)), .bool g]), isV (.int .i64 (((x : Nat) : Int))), isV (.int .i64 (((y : Nat) : Int))), isP (isV (.int .i64 ((trn g (((x : Nat) : Int)) (((y : Nat) : Int)) T).1))) (isV (.int .i64 ((trn g (((x : Nat) : Int)) (((y : Nat) : Int)) T).2))), isP (isV (.int .i64 ((trn g (((x : Nat) : Int)) (((y : Nat) : Int)) T).1))) (isV (.int .i64 ((trn g (((x : Nat) : Int)) (((y : Nat) : Int)) T).2))), isV (.int .i64 ((trn g (((x : Nat) : Int)) (((y : Nat) : Int)) T).1)), isV (.int .i64 ((trn g (((x : Nat) : Int)) (((y : Nat) : Int)) T).2))] (by rfl) alloc_Z ?_ ?_
                  · intro qi qh qA aa wx hb hs hd
                    match qi, qh, qA with
                    | 0, _, _ => exact .inl ⟨rfl, op_ldM rfl rfl (hs 4 rfl) ((HE.out.to hb).get 1 rfl)⟩
                    | 1, _, _ => exact .inl ⟨rfl, op_mv rfl (hs 7 rfl)⟩
                    | 2, _, _ => exact .inl ⟨rfl, op_mv rfl (hs 8 rfl)⟩
                    | 3, _, _ => exact .inl ⟨rfl, op_call3 rfl rfl Try.call58 (by rw [(show aa.eval (.tmp 22) = .agg #[.int .i64 0, .int .i64 0, .int .i64 (((T : Nat) : Int)), .bool g] from (hd 0 rfl)), (show aa.eval (.tmp 23) = .int .i64 (((x : Nat) : Int)) from (hd 1 rfl)), (show aa.eval (.tmp 24) = .int .i64 (((y : Nat) : Int)) from (hd 2 rfl))]; exact turned_nat 0 0 T g (((x : Nat) : Int)) (((y : Nat) : Int)) HT4.out (by omega) (by omega) _)⟩
                    | 4, _, _ => exact .inl ⟨rfl, op_mv rfl (hd 3 rfl)⟩
                    | 5, _, _ => exact .inl ⟨rfl, op_fst rfl (hd 4 rfl)⟩
                    | 6, _, _ => exact .inl ⟨rfl, op_snd rfl (hd 4 rfl)⟩
                    | qi + 7, h, _ => omega
                  · intro vs X2 hb hv hal hne
                    have HL0 := Hd.mk (HE.out.lt)
                    have HBW := HB
                    replace HB := Hd.mk (bel_then HB.out hb)
                    replace HE : Hd (Env X2 [⟨w.heap.size, 104, [.int .i64 Wd, .int .i64 Ht, .slice (some ad) xs.length k, .int .i64 n, .func (.func 82) #[] #[.pointer (some ⟨b, 0, none⟩)]]⟩, ⟨w.heap.size + 1, 31, [.int .i64 0, .int .i64 0, .int .i64 (((T : Nat) : Int)), .bool g]⟩, ⟨w.heap.size + 1 + 1, 130, [.int .i64 a, .int .i64 c]⟩]) := ⟨HE.out.to hb⟩
                    have HLS := HL0
                    have e26 : vs 26 = .int .i64 ((trn g (((x : Nat) : Int)) (((y : Nat) : Int)) T).1) := hv 5 (by decide) rfl
                    have e27 : vs 27 = .int .i64 ((trn g (((x : Nat) : Int)) (((y : Nat) : Int)) T).2) := hv 6 (by decide) rfl
                    simp only [putAll, List.foldl_cons, List.foldl_nil, Act.put, List.setIfInBounds_toArray, List.set_cons_succ, List.set_cons_zero, List.drop_succ_cons, List.drop_zero, e26, e27]
                    generalize vs 22 = s22
                    generalize vs 23 = s23
                    generalize vs 24 = s24
                    generalize vs 25 = s25
                    generalize vs 21 = s21
                    clear hv hal hne hb HL0 HBW HLS e26 e27
                    by_cases heq : colF Wd Ht xs ((trn g (x : Int) (y : Int) T).1 + a) ((trn g (x : Int) (y : Int) T).2 + c) = colF Wd Ht xs (x : Int) (y : Int)
                    · have HEQ := Hd.mk heq
                      clear heq
                      go_upto_region 8 with fail
                      refine wp_region_vs 17 [28, 29, 30, 31, 32, 33, 34, 35, 36, 37, 38, 39, 40, 41, 42, 43, 44] [0, 2, 3, 5, 6, 7, 9, 11, 13, 14, 16] [] 84 [.int .i64 0, .int .i64 0] [isV (.pointer (some ⟨w.heap.size, 4, none⟩)), isV (.func (.func 82) #[] #[.pointer (some ⟨b, 0, none⟩)]), isV (.int .i64 ((trn g (((x : Nat) : Int)) (((y : Nat) : Int)) T).1)), isV (.pointer (some ⟨w.heap.size + 1 + 1, 0, none⟩)), isV (.int .i64 a), isV (.int .i64 (((trn g (((x : Nat) : Int)) (((y : Nat) : Int)) T).1) + a)), isV (.int .i64 ((trn g (((x : Nat) : Int)) (((y : Nat) : Int)) T).2)), isV (.pointer (some ⟨w.heap.size + 1 + 1, 1, none⟩)), isV (.int .i64 c), isV (.int .i64 (((trn g (((x : Nat) : Int)) (((y : Nat) : Int)) T).2) + c)), isV (.int .i64 (colF Wd Ht xs (((trn g (((x : Nat) : Int)) (((y : Nat) : Int)) T).1) + a) (((trn g (((x : Nat) : Int)) (((y : Nat) : Int)) T).2) + c))), isV (.pointer (some ⟨w.heap.size, 4, none⟩)), isV (.func (.func 82) #[] #[.pointer (some ⟨b, 0, none⟩)]), isV (.int .i64 (((x : Nat) : Int))), isV (.int .i64 (((y : Nat) : Int))), isV (.int .i64 (colF Wd Ht xs (((x : Nat) : Int)) (((y : Nat) : Int)))), isV (.bool false)] (by kernel_rfl) (by kernel_rfl) (by kernel_rfl) (by rfl) alloc_Z (fun d v c a w h => by cases d <;> exact h) ?_ ?_
                      · intro qi qh qA aa wx hb hs hd
                        match qi, qh, qA with
                        | 0, _, _ => exact ⟨_, op_faP2 rfl (hs 3 rfl), rfl⟩
                        | 1, _, _ => exact op_ldF rfl rfl (hd 0 rfl) ((HE.out.to hb).cell 0 4 rfl rfl)
                        | 2, _, _ => exact op_mv rfl (hs 9 rfl)
                        | 3, _, _ => exact ⟨_, op_faV0 rfl (hs 5 rfl), rfl⟩
                        | 4, _, _ => exact op_ldI rfl rfl (hd 3 rfl) ((HE.out.to hb).cell 2 0 rfl rfl)
                        | 5, _, _ => exact ⟨_, op_add (by unfold Fit; omega) rfl (hd 2 rfl) (hd 4 rfl), rfl⟩
                        | 6, _, _ => exact op_mv rfl (hs 10 rfl)
                        | 7, _, _ => exact ⟨_, op_faV1 rfl (hs 5 rfl), rfl⟩
                        | 8, _, _ => exact op_ldI rfl rfl (hd 7 rfl) ((HE.out.to hb).cell 2 1 rfl rfl)
                        | 9, _, _ => exact ⟨_, op_add (by unfold Fit; omega) rfl (hd 6 rfl) (hd 8 rfl), rfl⟩
                        | 10, _, _ => exact op_callc2 (hd 1 rfl) rfl rfl Try.call82 (by rw [show aa.eval (.tmp 33) = .int .i64 (((trn g (((x : Nat) : Int)) (((y : Nat) : Int)) T).1) + a) from (hd 5 rfl), show aa.eval (.tmp 37) = .int .i64 (((trn g (((x : Nat) : Int)) (((y : Nat) : Int)) T).2) + c) from (hd 9 rfl)]; exact plane1_got Wd Ht ad k xs b (((trn g (((x : Nat) : Int)) (((y : Nat) : Int)) T).1) + a) (((trn g (((x : Nat) : Int)) (((y : Nat) : Int)) T).2) + c) HW.out HH.out (by omega) (by omega) _ (HRI.out.to (bel_then HB.out hb)) HL.out (HBK.out.to (bel_then HB.out hb)))
                        | 11, _, _ => exact ⟨_, op_faP2 rfl (hs 3 rfl), rfl⟩
                        | 12, _, _ => exact op_ldF rfl rfl (hd 11 rfl) ((HE.out.to hb).cell 0 4 rfl rfl)
                        | 13, _, _ => exact op_mv rfl (hs 7 rfl)
                        | 14, _, _ => exact op_mv rfl (hs 8 rfl)
                        | 15, _, _ => exact op_callc2 (hd 12 rfl) rfl rfl Try.call82 (by rw [show aa.eval (.tmp 41) = .int .i64 (((x : Nat) : Int)) from (hd 13 rfl), show aa.eval (.tmp 42) = .int .i64 (((y : Nat) : Int)) from (hd 14 rfl)]; exact plane1_got Wd Ht ad k xs b (((x : Nat) : Int)) (((y : Nat) : Int)) HW.out HH.out (by omega) (by omega) _ (HRI.out.to (bel_then HB.out hb)) HL.out (HBK.out.to (bel_then HB.out hb)))
                        | 16, _, _ => exact pure_b (bool_eq (by rw [decide_eq_true HEQ.out]; rfl)) (⟨_, op_neqI rfl (hd 10 rfl) (hd 15 rfl), rfl⟩)
                        | qi + 17, h, _ => omega
                      · intro vs X3 hb hv hal hne
                        have HL0 := Hd.mk (HE.out.lt)
                        have HBW := HB
                        replace HB := Hd.mk (bel_then HB.out hb)
                        replace HE : Hd (Env X3 [⟨w.heap.size, 104, [.int .i64 Wd, .int .i64 Ht, .slice (some ad) xs.length k, .int .i64 n, .func (.func 82) #[] #[.pointer (some ⟨b, 0, none⟩)]]⟩, ⟨w.heap.size + 1, 31, [.int .i64 0, .int .i64 0, .int .i64 (((T : Nat) : Int)), .bool g]⟩, ⟨w.heap.size + 1 + 1, 130, [.int .i64 a, .int .i64 c]⟩]) := ⟨HE.out.to hb⟩
                        have HLS := HL0
                        have e44 : vs 44 = .bool false := hv 16 (by decide) rfl
                        simp only [putAll, List.foldl_cons, List.foldl_nil, Act.put, List.setIfInBounds_toArray, List.set_cons_succ, List.set_cons_zero, List.drop_succ_cons, List.drop_zero, e44]
                        generalize vs 28 = s28
                        generalize vs 29 = s29
                        generalize vs 30 = s30
                        generalize vs 31 = s31
                        generalize vs 32 = s32
                        generalize vs 33 = s33
                        generalize vs 34 = s34
                        generalize vs 35 = s35
                        generalize vs 36 = s36
                        generalize vs 37 = s37
                        generalize vs 38 = s38
                        generalize vs 39 = s39
                        generalize vs 40 = s40
                        generalize vs 41 = s41
                        generalize vs 42 = s42
                        generalize vs 43 = s43
                        clear hv hal hne hb HL0 HBW HLS e44
                        go_wp2_with fail
                        go_roundw
                        case rel => exact ⟨y + 1, by omega, by go_num, ⟨HE.out, HB.out⟩, HS.out.cell HEQ.out⟩
                        case measure => simp [intOf]; omega
                    · have HEQ := Hd.mk heq
                      clear heq
                      go_upto_region 8 with fail
                      refine wp_region_vs 17 [28, 29, 30, 31, 32, 33, 34, 35, 36, 37, 38, 39, 40, 41, 42, 43, 44] [0, 2, 3, 5, 6, 7, 9, 11, 13, 14, 16] [] 84 [.int .i64 0, .int .i64 0] [isV (.pointer (some ⟨w.heap.size, 4, none⟩)), isV (.func (.func 82) #[] #[.pointer (some ⟨b, 0, none⟩)]), isV (.int .i64 ((trn g (((x : Nat) : Int)) (((y : Nat) : Int)) T).1)), isV (.pointer (some ⟨w.heap.size + 1 + 1, 0, none⟩)), isV (.int .i64 a), isV (.int .i64 (((trn g (((x : Nat) : Int)) (((y : Nat) : Int)) T).1) + a)), isV (.int .i64 ((trn g (((x : Nat) : Int)) (((y : Nat) : Int)) T).2)), isV (.pointer (some ⟨w.heap.size + 1 + 1, 1, none⟩)), isV (.int .i64 c), isV (.int .i64 (((trn g (((x : Nat) : Int)) (((y : Nat) : Int)) T).2) + c)), isV (.int .i64 (colF Wd Ht xs (((trn g (((x : Nat) : Int)) (((y : Nat) : Int)) T).1) + a) (((trn g (((x : Nat) : Int)) (((y : Nat) : Int)) T).2) + c))), isV (.pointer (some ⟨w.heap.size, 4, none⟩)), isV (.func (.func 82) #[] #[.pointer (some ⟨b, 0, none⟩)]), isV (.int .i64 (((x : Nat) : Int))), isV (.int .i64 (((y : Nat) : Int))), isV (.int .i64 (colF Wd Ht xs (((x : Nat) : Int)) (((y : Nat) : Int)))), isV (.bool true)] (by kernel_rfl) (by kernel_rfl) (by kernel_rfl) (by rfl) alloc_Z (fun d v c a w h => by cases d <;> exact h) ?_ ?_
                      · intro qi qh qA aa wx hb hs hd
                        match qi, qh, qA with
                        | 0, _, _ => exact ⟨_, op_faP2 rfl (hs 3 rfl), rfl⟩
                        | 1, _, _ => exact op_ldF rfl rfl (hd 0 rfl) ((HE.out.to hb).cell 0 4 rfl rfl)
                        | 2, _, _ => exact op_mv rfl (hs 9 rfl)
                        | 3, _, _ => exact ⟨_, op_faV0 rfl (hs 5 rfl), rfl⟩
                        | 4, _, _ => exact op_ldI rfl rfl (hd 3 rfl) ((HE.out.to hb).cell 2 0 rfl rfl)
                        | 5, _, _ => exact ⟨_, op_add (by unfold Fit; omega) rfl (hd 2 rfl) (hd 4 rfl), rfl⟩
                        | 6, _, _ => exact op_mv rfl (hs 10 rfl)
                        | 7, _, _ => exact ⟨_, op_faV1 rfl (hs 5 rfl), rfl⟩
                        | 8, _, _ => exact op_ldI rfl rfl (hd 7 rfl) ((HE.out.to hb).cell 2 1 rfl rfl)
                        | 9, _, _ => exact ⟨_, op_add (by unfold Fit; omega) rfl (hd 6 rfl) (hd 8 rfl), rfl⟩
                        | 10, _, _ => exact op_callc2 (hd 1 rfl) rfl rfl Try.call82 (by rw [show aa.eval (.tmp 33) = .int .i64 (((trn g (((x : Nat) : Int)) (((y : Nat) : Int)) T).1) + a) from (hd 5 rfl), show aa.eval (.tmp 37) = .int .i64 (((trn g (((x : Nat) : Int)) (((y : Nat) : Int)) T).2) + c) from (hd 9 rfl)]; exact plane1_got Wd Ht ad k xs b (((trn g (((x : Nat) : Int)) (((y : Nat) : Int)) T).1) + a) (((trn g (((x : Nat) : Int)) (((y : Nat) : Int)) T).2) + c) HW.out HH.out (by omega) (by omega) _ (HRI.out.to (bel_then HB.out hb)) HL.out (HBK.out.to (bel_then HB.out hb)))
                        | 11, _, _ => exact ⟨_, op_faP2 rfl (hs 3 rfl), rfl⟩
                        | 12, _, _ => exact op_ldF rfl rfl (hd 11 rfl) ((HE.out.to hb).cell 0 4 rfl rfl)
                        | 13, _, _ => exact op_mv rfl (hs 7 rfl)
                        | 14, _, _ => exact op_mv rfl (hs 8 rfl)
                        | 15, _, _ => exact op_callc2 (hd 12 rfl) rfl rfl Try.call82 (by rw [show aa.eval (.tmp 41) = .int .i64 (((x : Nat) : Int)) from (hd 13 rfl), show aa.eval (.tmp 42) = .int .i64 (((y : Nat) : Int)) from (hd 14 rfl)]; exact plane1_got Wd Ht ad k xs b (((x : Nat) : Int)) (((y : Nat) : Int)) HW.out HH.out (by omega) (by omega) _ (HRI.out.to (bel_then HB.out hb)) HL.out (HBK.out.to (bel_then HB.out hb)))
                        | 16, _, _ => exact pure_b (bool_eq (by rw [decide_eq_false HEQ.out]; rfl)) (⟨_, op_neqI rfl (hd 10 rfl) (hd 15 rfl), rfl⟩)
                        | qi + 17, h, _ => omega
                      · intro vs X3 hb hv hal hne
                        have HL0 := Hd.mk (HE.out.lt)
                        have HBW := HB
                        replace HB := Hd.mk (bel_then HB.out hb)
                        replace HE : Hd (Env X3 [⟨w.heap.size, 104, [.int .i64 Wd, .int .i64 Ht, .slice (some ad) xs.length k, .int .i64 n, .func (.func 82) #[] #[.pointer (some ⟨b, 0, none⟩)]]⟩, ⟨w.heap.size + 1, 31, [.int .i64 0, .int .i64 0, .int .i64 (((T : Nat) : Int)), .bool g]⟩, ⟨w.heap.size + 1 + 1, 130, [.int .i64 a, .int .i64 c]⟩]) := ⟨HE.out.to hb⟩
                        have HLS := HL0
                        have e44 : vs 44 = .bool true := hv 16 (by decide) rfl
                        simp only [putAll, List.foldl_cons, List.foldl_nil, Act.put, List.setIfInBounds_toArray, List.set_cons_succ, List.set_cons_zero, List.drop_succ_cons, List.drop_zero, e44]
                        generalize vs 28 = s28
                        generalize vs 29 = s29
                        generalize vs 30 = s30
                        generalize vs 31 = s31
                        generalize vs 32 = s32
                        generalize vs 33 = s33
                        generalize vs 34 = s34
                        generalize vs 35 = s35
                        generalize vs 36 = s36
                        generalize vs 37 = s37
                        generalize vs 38 = s38
                        generalize vs 39 = s39
                        generalize vs 40 = s40
                        generalize vs 41 = s41
                        generalize vs 42 = s42
                        generalize vs 43 = s43
                        clear hv hal hne hb HL0 HBW HLS e44
                        go_upto_region 9 with fail
                        refine wp_region_vd 0 [] [] [] 84 [.int .i64 0, .int .i64 0] [] (by rfl) alloc_Z ?_ ?_
                        · intro qi qh qA aa wx hb hs hd
                          match qi, qh, qA with
                          | qi + 0, h, _ => omega
                        · intro vs X4 hb hv hal hne
                          have HL0 := Hd.mk (HE.out.lt)
                          have HBW := HB
                          replace HB := Hd.mk (bel_then HB.out hb)
                          replace HE : Hd (Env X4 [⟨w.heap.size, 104, [.int .i64 Wd, .int .i64 Ht, .slice (some ad) xs.length k, .int .i64 n, .func (.func 82) #[] #[.pointer (some ⟨b, 0, none⟩)]]⟩, ⟨w.heap.size + 1, 31, [.int .i64 0, .int .i64 0, .int .i64 (((T : Nat) : Int)), .bool g]⟩, ⟨w.heap.size + 1 + 1, 130, [.int .i64 a, .int .i64 c]⟩]) := ⟨HE.out.to hb⟩
                          have HLS := HL0
                          simp only [putAll, List.foldl_cons, List.foldl_nil, Act.put, List.setIfInBounds_toArray, List.set_cons_succ, List.set_cons_zero, List.drop_succ_cons, List.drop_zero]
                          clear hv hal hne hb HL0 HBW HLS
                          go_wp2_with fail
                          go_ret
                          exact ⟨_, rfl, HB.out, by show Value.bool _ = _; rw [bP_false.2 (not_sym HEQ.out)]⟩
              · skip
                go_wp2_with fail
                go_roundw
                case rel => exact ⟨x + 1, by omega, by go_num, ⟨HE.out, HB.out⟩, HS.out.row (by omega)⟩
                case measure => simp [intOf]; omega
      · skip
        go_upto_region 12 with fail
        refine wp_region_vd 0 [] [] [] 84 [.int .i64 0, .int .i64 0] [] (by rfl) alloc_Z ?_ ?_
        · intro qi qh qA aa wx hb hs hd
          match qi, qh, qA with
          | qi + 0, h, _ => omega
        · intro vs X1 hb hv hal hne
          have HL0 := Hd.mk (HE.out.lt)
          have HBW := HB
          replace HB := Hd.mk (bel_then HB.out hb)
          replace HE : Hd (Env X1 [⟨w.heap.size, 104, [.int .i64 Wd, .int .i64 Ht, .slice (some ad) xs.length k, .int .i64 n, .func (.func 82) #[] #[.pointer (some ⟨b, 0, none⟩)]]⟩, ⟨w.heap.size + 1, 31, [.int .i64 0, .int .i64 0, .int .i64 (((T : Nat) : Int)), .bool g]⟩, ⟨w.heap.size + 1 + 1, 130, [.int .i64 a, .int .i64 c]⟩]) := ⟨HE.out.to hb⟩
          have HLS := HL0
          simp only [putAll, List.foldl_cons, List.foldl_nil, Act.put, List.setIfInBounds_toArray, List.set_cons_succ, List.set_cons_zero, List.drop_succ_cons, List.drop_zero]
          clear hv hal hne hb HL0 HBW HLS
          go_wp2_with fail
          go_ret
          exact ⟨_, rfl, HB.out, by show Value.bool _ = _; rw [bP_true.2 ((sym_iff hn1.1 HPER.out).1 (HS.out.all (by omega)))]⟩
set_option maxRecDepth 100000 in
set_option maxHeartbeats 1000000 in
theorem twice_got (Wd Ht : Int) (A : Option Addr) (l k : Nat) (n : Int) (b : Nat) (x y : Int) (hn1 : 1 ≤ n ∧ n ≤ 30) (hx : -1000 ≤ x ∧ x ≤ 1000) (hy : -1000 ≤ y ∧ y ≤ 1000) (w : World) :
    Calls Try.prog 84 #[.agg #[.int .i64 Wd, .int .i64 Ht, .slice A l k, .int .i64 n, .func (.func 82) #[] #[.pointer (some ⟨b, 0, none⟩)]], .int .i64 x, .int .i64 y] w (Got w (isV (.agg #[.int .i64 (x % (2 * n)), .int .i64 (y % (2 * n))])).p) := by
  have HX := Hd.mk (tmod_wrap (i := x) (j := 2 * n) (by omega))
  have HY := Hd.mk (tmod_wrap (i := y) (j := 2 * n) (by omega))
  have tx := tmod_bound (i := x) (j := 2 * n) (by omega)
  have ty := tmod_bound (i := y) (j := 2 * n) (by omega)
  go_enter Try.func84, Try.ntmps84
  go_upto_region 1 with fail
  obtain ⟨W0, hW0⟩ : ∃ W : World, W = (w.alloc (.cells #[.int .i64 Wd, .int .i64 Ht, .slice A l k, .int .i64 n, .func (.func 82) #[] #[.pointer (some ⟨b, 0, none⟩)]] 104)).alloc (.cells #[.int .i64 0, .int .i64 0] 130) := ⟨_, rfl⟩
  rw [← hW0]
  obtain ⟨he, hb⟩ := env_two hW0
  have HE := Hd.mk he
  have HB := Hd.mk hb
  clear he hb hW0
  refine wp_region_vd 3 [8, 9, 10] [0, 2] [] 84 [.int .i64 0, .int .i64 0] [isV (.pointer (some ⟨w.heap.size, 3, none⟩)), isV (.int .i64 n), isV (.int .i64 (2 * n))] (by rfl) alloc_Z ?_ ?_
  · intro qi qh qA aa wx hb hs hd
    match qi, qh, qA with
    | 0, _, _ => exact .inl ⟨rfl, ⟨_, op_faP1 rfl (hs 3 rfl), rfl⟩⟩
    | 1, _, _ => exact .inl ⟨rfl, op_ldI rfl rfl (hd 0 rfl) ((HE.out.to hb).cell 0 3 rfl rfl)⟩
    | 2, _, _ => exact .inl ⟨rfl, ⟨_, op_mul (by unfold Fit; omega) rfl rfl (hd 1 rfl), rfl⟩⟩
    | qi + 3, h, _ => omega
  · intro vs X1 hb hv hal hne
    have HL0 := Hd.mk (HE.out.lt)
    have HBW := HB
    replace HB := Hd.mk (bel_then HB.out hb)
    replace HE : Hd (Env X1 [⟨w.heap.size, 104, [.int .i64 Wd, .int .i64 Ht, .slice A l k, .int .i64 n, .func (.func 82) #[] #[.pointer (some ⟨b, 0, none⟩)]]⟩, ⟨w.heap.size + 1, 130, [.int .i64 0, .int .i64 0]⟩]) := ⟨HE.out.to hb⟩
    have HLS := HL0
    have e10 : vs 10 = .int .i64 (2 * n) := hv 2 (by decide) rfl
    simp only [putAll, List.foldl_cons, List.foldl_nil, Act.put, List.setIfInBounds_toArray, List.set_cons_succ, List.set_cons_zero, List.drop_succ_cons, List.drop_zero, e10]
    generalize vs 8 = s8
    generalize vs 9 = s9
    clear hv hal hne hb HL0 HBW HLS e10
    go_upto_region 2 with fail
    refine wp_region_vs 15 [11, 12, 13, 14, 15, 16, 17, 18, 19, 20, 21, 22, 23, 24, 25] [0, 1, 3, 4, 5, 7, 8, 10, 11, 12, 14] [] 84 [.int .i64 0, .int .i64 0] [isV (.int .i64 x), isV (.int .i64 (2 * n)), isV (.int .i64 (Int.tmod x (2 * n))), isV (.int .i64 (2 * n)), isV (.int .i64 ((Int.tmod x (2 * n)) + (2 * n))), isV (.int .i64 (2 * n)), isV (.int .i64 (x % (2 * n))), isV (.int .i64 y), isV (.int .i64 (2 * n)), isV (.int .i64 (Int.tmod y (2 * n))), isV (.int .i64 (2 * n)), isV (.int .i64 ((Int.tmod y (2 * n)) + (2 * n))), isV (.int .i64 (2 * n)), isV (.int .i64 (y % (2 * n))), isV (.agg #[.int .i64 (x % (2 * n)), .int .i64 (y % (2 * n))])] (by kernel_rfl) (by kernel_rfl) (by kernel_rfl) (by rfl) alloc_Z (fun d v c a w h => by cases d <;> exact h) ?_ ?_
    · intro qi qh qA aa wx hb hs hd
      match qi, qh, qA with
      | 0, _, _ => exact op_mv rfl (hs 1 rfl)
      | 1, _, _ => exact op_mv rfl (hs 7 rfl)
      | 2, _, _ => exact op_run rfl (op_rem (by omega) (by unfold Fit; omega) (by omega) rfl (hd 0 rfl) (hd 1 rfl) _) rfl
      | 3, _, _ => exact op_mv rfl (hs 7 rfl)
      | 4, _, _ => exact ⟨_, op_add (by unfold Fit; omega) rfl (hd 2 rfl) (hd 3 rfl), rfl⟩
      | 5, _, _ => exact op_mv rfl (hs 7 rfl)
      | 6, _, _ => exact wp_b (int_eq HX.out) (op_run rfl (op_rem (by omega) (by unfold Fit; omega) (by omega) rfl (hd 4 rfl) (hd 5 rfl) _) rfl)
      | 7, _, _ => exact op_mv rfl (hs 2 rfl)
      | 8, _, _ => exact op_mv rfl (hs 7 rfl)
      | 9, _, _ => exact op_run rfl (op_rem (by omega) (by unfold Fit; omega) (by omega) rfl (hd 7 rfl) (hd 8 rfl) _) rfl
      | 10, _, _ => exact op_mv rfl (hs 7 rfl)
      | 11, _, _ => exact ⟨_, op_add (by unfold Fit; omega) rfl (hd 9 rfl) (hd 10 rfl), rfl⟩
      | 12, _, _ => exact op_mv rfl (hs 7 rfl)
      | 13, _, _ => exact wp_b (int_eq HY.out) (op_run rfl (op_rem (by omega) (by unfold Fit; omega) (by omega) rfl (hd 11 rfl) (hd 12 rfl) _) rfl)
      | 14, _, _ => exact ⟨_, op_buV rfl (hd 6 rfl) (hd 13 rfl), rfl⟩
      | qi + 15, h, _ => omega
    · intro vs X2 hb hv hal hne
      have HL0 := Hd.mk (HE.out.lt)
      have HBW := HB
      replace HB := Hd.mk (bel_then HB.out hb)
      replace HE : Hd (Env X2 [⟨w.heap.size, 104, [.int .i64 Wd, .int .i64 Ht, .slice A l k, .int .i64 n, .func (.func 82) #[] #[.pointer (some ⟨b, 0, none⟩)]]⟩, ⟨w.heap.size + 1, 130, [.int .i64 0, .int .i64 0]⟩]) := ⟨HE.out.to hb⟩
      have HLS := HL0
      have e25 : vs 25 = .agg #[.int .i64 (x % (2 * n)), .int .i64 (y % (2 * n))] := hv 14 (by decide) rfl
      simp only [putAll, List.foldl_cons, List.foldl_nil, Act.put, List.setIfInBounds_toArray, List.set_cons_succ, List.set_cons_zero, List.drop_succ_cons, List.drop_zero, e25]
      generalize vs 11 = s11
      generalize vs 12 = s12
      generalize vs 13 = s13
      generalize vs 14 = s14
      generalize vs 15 = s15
      generalize vs 16 = s16
      generalize vs 17 = s17
      generalize vs 18 = s18
      generalize vs 19 = s19
      generalize vs 20 = s20
      generalize vs 21 = s21
      generalize vs 22 = s22
      generalize vs 23 = s23
      generalize vs 24 = s24
      clear hv hal hne hb HL0 HBW HLS e25
      refine wpList_st rfl rfl rfl rfl rfl (sto_V (HE.out.get 1 rfl)) ?_
      have HE' : Env (putL X2 (w.heap.size + 1) 0 [.int .i64 (x % (2 * n)), .int .i64 (y % (2 * n))]) [⟨w.heap.size, 104, [.int .i64 Wd, .int .i64 Ht, .slice A l k, .int .i64 n, .func (.func 82) #[] #[.pointer (some ⟨b, 0, none⟩)]]⟩, ⟨w.heap.size + 1, 130, [.int .i64 (x % (2 * n)), .int .i64 (y % (2 * n))]⟩] := HE.out.putF 1 rfl rfl
      have HB' := putL_below (show w.heap.size ≤ w.heap.size + 1 from by omega) [.int .i64 (x % (2 * n)), .int .i64 (y % (2 * n))] _ 0 HB.out
      generalize putL X2 (w.heap.size + 1) 0 [.int .i64 (x % (2 * n)), .int .i64 (y % (2 * n))] = X3 at *
      replace HE := Hd.mk HE'
      replace HB := Hd.mk HB'
      clear HE' HB'
      go_wp2_with fail
      have k0a := HE.out.cell 1 0 rfl rfl
      have k0b := HE.out.cell 1 1 rfl rfl
      refine bodyPost_ret (v := .agg #[.int .i64 (x % (2 * n)), .int .i64 (y % (2 * n))]) (by simp [results, Try.results84, go_sem, k0a, k0b]) rfl ?_
      exact ⟨_, rfl, HB.out, rfl⟩
end Go.Proofs.Ytddbmckbankmeaa
