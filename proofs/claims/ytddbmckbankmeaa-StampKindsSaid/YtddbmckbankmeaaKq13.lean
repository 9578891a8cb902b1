/- Part 13 of the texts behind this claim. -/
import Derived.Test.YtddbmckbankmeaaKq12
set_option linter.unusedVariables false
set_option linter.unusedSimpArgs false
namespace Go.Proofs.Ytddbmckbankmeaa
open Go.RowKit
def knm : Nat → Value
  | 0 => .string { data := #[112, 52] }
  | 1 => .string { data := #[112, 52, 109] }
  | 2 => .string { data := #[112, 52, 103] }
  | 3 => .string { data := #[112, 50] }
  | 4 => .string { data := #[99, 109, 109] }
  | 5 => .string { data := #[112, 103, 103] }
  | 6 => .string { data := #[112, 109, 103] }
  | 7 => .string { data := #[112, 109, 109] }
  | 8 => .string { data := #[112, 49] }
  | 9 => .string { data := #[112, 103] }
  | 10 => .string { data := #[99, 109] }
  | _ => .string { data := #[112, 109] }
noncomputable def cntN (p : Nat → Prop) : Nat → Nat
  | 0 => 0
  | T + 1 => cntN p T + (bP (p T)).toNat
theorem cntN_four (p : Nat → Prop) : cntN p 4 = cnt p := by simp [cntN, cnt]
theorem cntN_yes {p : Nat → Prop} {T : Nat} (h : p T) : cntN p (T + 1) = cntN p T + 1 := by simp [cntN, bP_true.2 h]
theorem cntN_no {p : Nat → Prop} {T : Nat} (h : ¬ p T) : cntN p (T + 1) = cntN p T := by simp [cntN, bP_false.2 h]
theorem cntN_le (p : Nat → Prop) : ∀ T, cntN p T ≤ T
  | 0 => Nat.le_refl _
  | T + 1 => by
    have := cntN_le p T
    show cntN p T + (bP (p T)).toNat ≤ T + 1
    cases bP (p T) <;> simp <;> omega
theorem cntN_pos {p : Nat → Prop} : ∀ T, 0 < cntN p T ↔ ∃ k, k < T ∧ p k
  | 0 => ⟨fun h => absurd h (Nat.lt_irrefl 0), fun ⟨k, h, _⟩ => absurd h (Nat.not_lt_zero k)⟩
  | T + 1 => by
    by_cases h : p T
    · rw [cntN_yes h]
      exact ⟨fun _ => ⟨T, Nat.lt_succ_self T, h⟩, fun _ => Nat.succ_pos _⟩
    · rw [cntN_no h, cntN_pos T]
      constructor
      · rintro ⟨k, h1, h2⟩
        exact ⟨k, by omega, h2⟩
      · rintro ⟨k, h1, h2⟩
        by_cases e : k = T
        · rw [e] at h2
          exact absurd h2 h
        · exact ⟨k, by omega, h2⟩
theorem kindF_R (f : Int → Int → Int) : kindF f = kindR (bP (Ex f false 1)) (bP (Ex f false 2)) (cntN (Ex f true) 4) (cntN (Mir f) 4) (decide (0 < cntN (fun k => Mir f k ∧ Cen f k) 4)) := by
  have e : decide (0 < cntN (fun k => Mir f k ∧ Cen f k) 4) = bP (CenA f) := bP_of (by rw [decide_eq_true_iff, cntN_pos]; exact Iff.rfl)
  rw [e, cntN_four, cntN_four, kind_eq mirrors_le]
  rfl
set_option maxRecDepth 100000 in
set_option maxHeartbeats 1000000 in
theorem rKind_got (Wd Ht : Int) (ad : Addr) (k : Nat) (xs : List Int) (hW : 1 ≤ Wd ∧ Wd ≤ 6) (hH : 1 ≤ Ht ∧ Ht ≤ 6) (w : World) (hri : RI w (some ad) xs) (hl : (xs.length : Int) = Wd * Ht) :
    Calls Try.prog 35 #[.agg #[.int .i64 Wd, .int .i64 Ht, .slice (some ad) xs.length k]] w (Got w (isV (knm (kindF (colF Wd Ht xs)))).p) := by
  have HRI := Hd.mk hri
  have HL := Hd.mk hl
  clear hri hl
  have HW := Hd.mk hW
  have HH := Hd.mk hH
  clear hW hH
  obtain ⟨q, hq⟩ : ∃ q, bP (Ex (colF Wd Ht xs) false 1) = q := ⟨_, rfl⟩
  obtain ⟨h, hh⟩ : ∃ h, bP (Ex (colF Wd Ht xs) false 2) = h := ⟨_, rfl⟩
  have HQ := Hd.mk hq
  have HH2 := Hd.mk hh
  clear hq hh
  obtain ⟨vc, hvc⟩ : ∃ vc : Nat, (vc = 0 ∧ Ex (colF Wd Ht xs) false 1) ∨ (vc = 1 ∧ ¬ Ex (colF Wd Ht xs) false 1) := by
    by_cases h1 : Ex (colF Wd Ht xs) false 1
    · exact ⟨0, .inl ⟨rfl, h1⟩⟩
    · exact ⟨1, .inr ⟨rfl, h1⟩⟩
  have HVC := Hd.mk hvc
  clear hvc
  go_enter Try.func35, Try.ntmps35
  go_upto_region 1 with fail
  obtain ⟨W0, hW0⟩ : ∃ W : World, W = w.alloc (.cells #[.int .i64 Wd, .int .i64 Ht, .slice (some ad) xs.length k] 24) := ⟨_, rfl⟩
  rw [← hW0]
  obtain ⟨he, hb⟩ := env_one hW0
  have HE := Hd.mk he
  have HB := Hd.mk hb
  clear he hb hW0
  refine wp_region_vg 13 [10, 11, 12, 13, 14, 15, 16, 17, 18, 19, 20, 3, 4] [3, 7, 11, 12] [] 84 [.int .i64 0, .int .i64 0] [isV (.agg #[.int .i64 Wd, .int .i64 Ht, .slice (some ad) xs.length k]), isV (.agg #[.int .i64 ((lin false 1).a), .int .i64 ((lin false 1).b), .int .i64 ((lin false 1).c), .int .i64 ((lin false 1).d)]), (match vc with | 0 => isV (.bool true) | _ => isV (.bool false) : SP), (match vc with | 0 => isV (.bool true) | _ => isV (.bool false) : SP), (match vc with | 0 => isV undef | _ => isV (.agg #[.int .i64 Wd, .int .i64 Ht, .slice (some ad) xs.length k]) : SP), (match vc with | 0 => isV undef | _ => isV (.agg #[.int .i64 ((lin false 3).a), .int .i64 ((lin false 3).b), .int .i64 ((lin false 3).c), .int .i64 ((lin false 3).d)]) : SP), (match vc with | 0 => isV undef | _ => isV (.bool false) : SP), isV (.bool q), isV (.agg #[.int .i64 Wd, .int .i64 Ht, .slice (some ad) xs.length k]), isV (.agg #[.int .i64 ((lin false 2).a), .int .i64 ((lin false 2).b), .int .i64 ((lin false 2).c), .int .i64 ((lin false 2).d)]), isV (.bool h), isV (.bool q), isV (.bool h)] (by kernel_rfl) (by kernel_rfl) (by kernel_rfl) (by rfl) alloc_Z (fun d v c a w h => by cases d <;> exact h) ?_ ?_
  · intro qi qh qA aa wx hb hs hd
    rcases HVC.out with ⟨rfl, h1⟩ | ⟨rfl, h1⟩
    · match qi, qh, qA with
      | 0, _, _ => exact .inl ⟨rfl, op_ldU rfl rfl (hs 1 rfl) ((HE.out.to hb).get 0 rfl)⟩
      | 1, _, _ => exact .inl ⟨rfl, op_call2 rfl rfl Try.call60 (rturned_nat false 1 (by omega) _)⟩
      | 2, _, _ => exact .inl ⟨rfl, wp_b (bool_eq (bP_true.2 h1)) (op_call2 rfl rfl Try.call68 (by rw [(show aa.eval (.tmp 10) = .agg #[.int .i64 Wd, .int .i64 Ht, .slice (some ad) xs.length k] from (hd 0 rfl)), (show aa.eval (.tmp 11) = .agg #[.int .i64 ((lin false 1).a), .int .i64 ((lin false 1).b), .int .i64 ((lin false 1).c), .int .i64 ((lin false 1).d)] from (hd 1 rfl))]; exact rsome_got Wd Ht ad k xs false 1 HW.out HH.out _ (HRI.out.to (bel_then HB.out hb)) HL.out (by omega)))⟩
      | 3, _, _ => exact .inl ⟨rfl, op_mv rfl (hd 2 rfl)⟩
      | 4, _, _ => exact .inr ⟨⟨rfl, .inl (hd 3 rfl)⟩, rfl⟩
      | 5, _, _ => exact .inr ⟨⟨rfl, .inl (hd 3 rfl)⟩, rfl⟩
      | 6, _, _ => exact .inr ⟨⟨rfl, .inl (hd 3 rfl)⟩, rfl⟩
      | 7, _, _ => exact .inl ⟨rfl, pure_b (bool_eq (by rw [← HQ.out]; exact (bP_true.2 h1).symm)) (⟨_, op_pickT rfl (hd 3 rfl) rfl, rfl⟩)⟩
      | 8, _, _ => exact .inl ⟨rfl, op_ldU rfl rfl (hs 1 rfl) ((HE.out.to hb).get 0 rfl)⟩
      | 9, _, _ => exact .inl ⟨rfl, op_call2 rfl rfl Try.call60 (rturned_nat false 2 (by omega) _)⟩
      | 10, _, _ => exact .inl ⟨rfl, wp_b (bool_eq HH2.out) (op_call2 rfl rfl Try.call68 (by rw [(show aa.eval (.tmp 18) = .agg #[.int .i64 Wd, .int .i64 Ht, .slice (some ad) xs.length k] from (hd 8 rfl)), (show aa.eval (.tmp 19) = .agg #[.int .i64 ((lin false 2).a), .int .i64 ((lin false 2).b), .int .i64 ((lin false 2).c), .int .i64 ((lin false 2).d)] from (hd 9 rfl))]; exact rsome_got Wd Ht ad k xs false 2 HW.out HH.out _ (HRI.out.to (bel_then HB.out hb)) HL.out (by omega)))⟩
      | 11, _, _ => exact .inl ⟨rfl, op_asg rfl (hd 7 rfl)⟩
      | 12, _, _ => exact .inl ⟨rfl, op_asg rfl (hd 10 rfl)⟩
      | qi + 13, h, _ => omega
    · match qi, qh, qA with
      | 0, _, _ => exact .inl ⟨rfl, op_ldU rfl rfl (hs 1 rfl) ((HE.out.to hb).get 0 rfl)⟩
      | 1, _, _ => exact .inl ⟨rfl, op_call2 rfl rfl Try.call60 (rturned_nat false 1 (by omega) _)⟩
      | 2, _, _ => exact .inl ⟨rfl, wp_b (bool_eq (bP_false.2 h1)) (op_call2 rfl rfl Try.call68 (by rw [(show aa.eval (.tmp 10) = .agg #[.int .i64 Wd, .int .i64 Ht, .slice (some ad) xs.length k] from (hd 0 rfl)), (show aa.eval (.tmp 11) = .agg #[.int .i64 ((lin false 1).a), .int .i64 ((lin false 1).b), .int .i64 ((lin false 1).c), .int .i64 ((lin false 1).d)] from (hd 1 rfl))]; exact rsome_got Wd Ht ad k xs false 1 HW.out HH.out _ (HRI.out.to (bel_then HB.out hb)) HL.out (by omega)))⟩
      | 3, _, _ => exact .inl ⟨rfl, op_mv rfl (hd 2 rfl)⟩
      | 4, _, _ => exact .inl ⟨⟨rfl, .inl (hd 3 rfl)⟩, op_ldU rfl rfl (hs 1 rfl) ((HE.out.to hb).get 0 rfl)⟩
      | 5, _, _ => exact .inl ⟨⟨rfl, .inl (hd 3 rfl)⟩, op_call2 rfl rfl Try.call60 (rturned_nat false 3 (by omega) _)⟩
      | 6, _, _ => exact .inl ⟨⟨rfl, .inl (hd 3 rfl)⟩, wp_b (bool_eq (bP_false.2 (fun h3 => h1 (inv3 h3)))) (op_call2 rfl rfl Try.call68 (by rw [(show aa.eval (.tmp 14) = .agg #[.int .i64 Wd, .int .i64 Ht, .slice (some ad) xs.length k] from (hd 4 rfl)), (show aa.eval (.tmp 15) = .agg #[.int .i64 ((lin false 3).a), .int .i64 ((lin false 3).b), .int .i64 ((lin false 3).c), .int .i64 ((lin false 3).d)] from (hd 5 rfl))]; exact rsome_got Wd Ht ad k xs false 3 HW.out HH.out _ (HRI.out.to (bel_then HB.out hb)) HL.out (by omega)))⟩
      | 7, _, _ => exact .inl ⟨rfl, pure_b (bool_eq (by rw [← HQ.out]; exact (bP_false.2 h1).symm)) (⟨_, op_pickF rfl (hd 3 rfl) (hd 6 rfl), rfl⟩)⟩
      | 8, _, _ => exact .inl ⟨rfl, op_ldU rfl rfl (hs 1 rfl) ((HE.out.to hb).get 0 rfl)⟩
      | 9, _, _ => exact .inl ⟨rfl, op_call2 rfl rfl Try.call60 (rturned_nat false 2 (by omega) _)⟩
      | 10, _, _ => exact .inl ⟨rfl, wp_b (bool_eq HH2.out) (op_call2 rfl rfl Try.call68 (by rw [(show aa.eval (.tmp 18) = .agg #[.int .i64 Wd, .int .i64 Ht, .slice (some ad) xs.length k] from (hd 8 rfl)), (show aa.eval (.tmp 19) = .agg #[.int .i64 ((lin false 2).a), .int .i64 ((lin false 2).b), .int .i64 ((lin false 2).c), .int .i64 ((lin false 2).d)] from (hd 9 rfl))]; exact rsome_got Wd Ht ad k xs false 2 HW.out HH.out _ (HRI.out.to (bel_then HB.out hb)) HL.out (by omega)))⟩
      | 11, _, _ => exact .inl ⟨rfl, op_asg rfl (hd 7 rfl)⟩
      | 12, _, _ => exact .inl ⟨rfl, op_asg rfl (hd 10 rfl)⟩
      | qi + 13, h, _ => omega
  · intro vs X1 hb hv hal hne
    have HL0 := Hd.mk (HE.out.lt)
    have HBW := HB
    replace HB := Hd.mk (bel_then HB.out hb)
    replace HE : Hd (Env X1 [⟨w.heap.size, 24, [.int .i64 Wd, .int .i64 Ht, .slice (some ad) xs.length k]⟩]) := ⟨HE.out.to hb⟩
    have HLS := HL0
    have e3 : vs 3 = .bool q := hv 11 (by decide) rfl
    have e4 : vs 4 = .bool h := hv 12 (by decide) rfl
    simp only [putAll, List.foldl_cons, List.foldl_nil, Act.put, List.setIfInBounds_toArray, List.set_cons_succ, List.set_cons_zero, List.drop_succ_cons, List.drop_zero, e3, e4]
    generalize vs 10 = s10
    generalize vs 11 = s11
    generalize vs 12 = s12
    generalize vs 13 = s13
    generalize vs 14 = s14
    generalize vs 15 = s15
    generalize vs 16 = s16
    generalize vs 17 = s17
    generalize vs 18 = s18
    generalize vs 19 = s19
    generalize vs 20 = s20
    clear hv hal hne hb HL0 HBW HLS e3 e4
    go_upto_region 2 with fail
    refine wp_region_vd 0 [] [] [] 84 [.int .i64 0, .int .i64 0] [] (by rfl) alloc_Z ?_ ?_
    · intro qi qh qA aa wx hb hs hd
      match qi, qh, qA with
      | qi + 0, h, _ => omega
    · intro vs X2 hb hv hal hne
      have HL0 := Hd.mk (HE.out.lt)
      have HBW := HB
      replace HB := Hd.mk (bel_then HB.out hb)
      replace HE : Hd (Env X2 [⟨w.heap.size, 24, [.int .i64 Wd, .int .i64 Ht, .slice (some ad) xs.length k]⟩]) := ⟨HE.out.to hb⟩
      have HLS := HL0
      simp only [putAll, List.foldl_cons, List.foldl_nil, Act.put, List.setIfInBounds_toArray, List.set_cons_succ, List.set_cons_zero, List.drop_succ_cons, List.drop_zero]
      clear hv hal hne hb HL0 HBW HLS
      go_upto_region 3 with fail
      refine wp_region_vd 1 [21] [0] [] 84 [.int .i64 0, .int .i64 0] [isV (.int .i64 0)] (by rfl) alloc_Z ?_ ?_
      · intro qi qh qA aa wx hb hs hd
        match qi, qh, qA with
        | 0, _, _ => exact .inl ⟨rfl, op_mv rfl rfl⟩
        | qi + 1, h, _ => omega
      · intro vs X3 hb hv hal hne
        have HL0 := Hd.mk (HE.out.lt)
        have HBW := HB
        replace HB := Hd.mk (bel_then HB.out hb)
        replace HE : Hd (Env X3 [⟨w.heap.size, 24, [.int .i64 Wd, .int .i64 Ht, .slice (some ad) xs.length k]⟩]) := ⟨HE.out.to hb⟩
        have HLS := HL0
        have e21 : vs 21 = .int .i64 0 := hv 0 (by decide) rfl
        simp only [putAll, List.foldl_cons, List.foldl_nil, Act.put, List.setIfInBounds_toArray, List.set_cons_succ, List.set_cons_zero, List.drop_succ_cons, List.drop_zero, e21]
        clear hv hal hne hb HL0 HBW HLS e21
        go_wp2_with fail
        go_loopw [5, 6, 7, 21] (fun s5 s6 s7 sx wr => ∃ T : Nat, T ≤ 4 ∧ s5 = .int .i64 ((cntN (Ex (colF Wd Ht xs) true) T : Nat) : Int) ∧ s6 = .int .i64 ((cntN (Mir (colF Wd Ht xs)) T : Nat) : Int) ∧ s7 = .int .i64 ((cntN (fun k => Mir (colF Wd Ht xs) k ∧ Cen (colF Wd Ht xs) k) T : Nat) : Int) ∧ sx = .int .i64 (T : Int) ∧ (Env wr [⟨w.heap.size, 24, [.int .i64 Wd, .int .i64 Ht, .slice (some ad) xs.length k]⟩] ∧ Below w.heap.size w wr)) (fun _ _ _ sx _ => 4 - (intOf sx).toNat)
        case atStart => exact ⟨0, by omega, rfl, rfl, rfl, rfl, ⟨HE.out, HB.out⟩⟩
        case round =>
          obtain ⟨T, hT4, rfl, rfl, rfl, rfl, ⟨he, hb⟩⟩ := hrel
          clear HB HE
          have HB := Hd.mk hb
          have HE : Hd (Env wr [⟨w.heap.size, 24, [.int .i64 Wd, .int .i64 Ht, .slice (some ad) xs.length k]⟩]) := ⟨he⟩
          clear he hb
          have c0 := cntN_le (Ex (colF Wd Ht xs) true) T
          have c1 := cntN_le (Mir (colF Wd Ht xs)) T
          have c2 := cntN_le (fun k => Mir (colF Wd Ht xs) k ∧ Cen (colF Wd Ht xs) k) T
          generalize hF : cntN (Ex (colF Wd Ht xs) true) T = fl at *
          generalize hM : cntN (Mir (colF Wd Ht xs)) T = mi at *
          generalize hC : cntN (fun k => Mir (colF Wd Ht xs) k ∧ Cen (colF Wd Ht xs) k) T = ce at *
          have HFL := Hd.mk hF
          have HMI := Hd.mk hM
          have HCE := Hd.mk hC
          clear hF hM hC
          by_cases hT : T < 4
          · skip
            go_upto_region 5 with fail
            refine wp_region_vd 1 [23] [0] [] 84 [.int .i64 0, .int .i64 0] [isV (.int .i64 (((T : Nat) : Int)))] (by rfl) alloc_Z ?_ ?_
            · intro qi qh qA aa wx hb hs hd
              match qi, qh, qA with
              | 0, _, _ => exact .inl ⟨rfl, op_mv rfl (hs 21 rfl)⟩
              | qi + 1, h, _ => omega
            · intro vs X1 hb hv hal hne
              have HL0 := Hd.mk (HE.out.lt)
              have HBW := HB
              replace HB := Hd.mk (bel_then HB.out hb)
              replace HE : Hd (Env X1 [⟨w.heap.size, 24, [.int .i64 Wd, .int .i64 Ht, .slice (some ad) xs.length k]⟩]) := ⟨HE.out.to hb⟩
              have HLS := HL0
              have e23 : vs 23 = .int .i64 (((T : Nat) : Int)) := hv 0 (by decide) rfl
              simp only [putAll, List.foldl_cons, List.foldl_nil, Act.put, List.setIfInBounds_toArray, List.set_cons_succ, List.set_cons_zero, List.drop_succ_cons, List.drop_zero, e23]
              clear hv hal hne hb HL0 HBW HLS e23
              go_upto_region 6 with fail
              refine wp_region_vs 5 [24, 25, 26, 27, 9] [1] [4] 112 [.bool false, .bool false, .bool false] [isV (.agg #[.int .i64 Wd, .int .i64 Ht, .slice (some ad) xs.length k]), isV (.int .i64 (((T : Nat) : Int))), isV (.agg #[.int .i64 ((lin true T).a), .int .i64 ((lin true T).b), .int .i64 ((lin true T).c), .int .i64 ((lin true T).d)]), isV (.agg #[.bool (bP (¬ Ex (colF Wd Ht xs) true T)), .bool (bP (Mir (colF Wd Ht xs) T)), .bool (bP (Mir (colF Wd Ht xs) T ∧ Cen (colF Wd Ht xs) T))]), SP.any] (by kernel_rfl) (by kernel_rfl) (by kernel_rfl) (by rfl) alloc_D (fun d v c a w h => by cases d <;> exact h) ?_ ?_
              · intro qi qh qA aa wx hb hs hd
                match qi, qh, qA with
                | 0, _, _ => exact op_ldU rfl rfl (hs 1 rfl) ((HE.out.to hb).get 0 rfl)
                | 1, _, _ => exact op_mv rfl (hs 8 rfl)
                | 2, _, _ => exact op_call2 rfl rfl Try.call60 (by rw [(show aa.eval (.tmp 25) = .int .i64 (((T : Nat) : Int)) from (hd 1 rfl))]; exact rturned_nat true T (by omega) _)
                | 3, _, _ => exact op_call2 rfl rfl Try.call69 (by rw [(show aa.eval (.tmp 24) = .agg #[.int .i64 Wd, .int .i64 Ht, .slice (some ad) xs.length k] from (hd 0 rfl)), (show aa.eval (.tmp 26) = .agg #[.int .i64 ((lin true T).a), .int .i64 ((lin true T).b), .int .i64 ((lin true T).c), .int .i64 ((lin true T).d)] from (hd 2 rfl))]; exact rclass_got Wd Ht ad k xs T HW.out HH.out _ (HRI.out.to (bel_then HB.out hb)) HL.out (by omega))
                | 4, _, h => cases h
                | qi + 5, h, _ => omega
              · intro vs X2 hb hv hal hne
                have HL0 := Hd.mk (HE.out.lt)
                have HBW := HB
                replace HB := Hd.mk (bel_then HB.out hb)
                replace HE : Hd (Env X2 [⟨w.heap.size, 24, [.int .i64 Wd, .int .i64 Ht, .slice (some ad) xs.length k]⟩]) := ⟨HE.out.to hb⟩
                have HLS := HL0
                have e27 : vs 27 = .agg #[.bool (bP (¬ Ex (colF Wd Ht xs) true T)), .bool (bP (Mir (colF Wd Ht xs) T)), .bool (bP (Mir (colF Wd Ht xs) T ∧ Cen (colF Wd Ht xs) T))] := hv 3 (by decide) rfl
                obtain ⟨g9, e9, l9, b9⟩ : ∃ g, vs 9 = .pointer (some ⟨g, 0, none⟩) ∧ _ := hal 4 rfl
                replace HE : Hd (Env X2 [⟨w.heap.size, 24, [.int .i64 Wd, .int .i64 Ht, .slice (some ad) xs.length k]⟩, ⟨g9, 112, [.bool false, .bool false, .bool false]⟩]) := ⟨Env.addne (e := ⟨g9, 112, [.bool false, .bool false, .bool false]⟩) HE.out b9 (fun e' he => Nat.ne_of_lt (Nat.lt_of_lt_of_le (HL0.out e' he) l9))⟩
                have G9 : Hd (w.heap.size ≤ g9) := ⟨Nat.le_trans HBW.out.size l9⟩
                simp only [putAll, List.foldl_cons, List.foldl_nil, Act.put, List.setIfInBounds_toArray, List.set_cons_succ, List.set_cons_zero, List.drop_succ_cons, List.drop_zero, e27, e9]
                generalize vs 24 = s24
                generalize vs 25 = s25
                generalize vs 26 = s26
                clear hv hal hne hb HL0 HBW HLS e27 e9 l9 b9
                refine wpList_st rfl rfl rfl rfl rfl (sto_D (HE.out.get 1 rfl)) ?_
                have HE' : Env (putL X2 g9 0 [.bool (bP (¬ Ex (colF Wd Ht xs) true T)), .bool (bP (Mir (colF Wd Ht xs) T)), .bool (bP (Mir (colF Wd Ht xs) T ∧ Cen (colF Wd Ht xs) T))]) [⟨w.heap.size, 24, [.int .i64 Wd, .int .i64 Ht, .slice (some ad) xs.length k]⟩, ⟨g9, 112, [.bool (bP (¬ Ex (colF Wd Ht xs) true T)), .bool (bP (Mir (colF Wd Ht xs) T)), .bool (bP (Mir (colF Wd Ht xs) T ∧ Cen (colF Wd Ht xs) T))]⟩] := HE.out.putF 1 rfl rfl
                have HB' := putL_below (show w.heap.size ≤ g9 from G9.out) [.bool (bP (¬ Ex (colF Wd Ht xs) true T)), .bool (bP (Mir (colF Wd Ht xs) T)), .bool (bP (Mir (colF Wd Ht xs) T ∧ Cen (colF Wd Ht xs) T))] _ 0 HB.out
                generalize putL X2 g9 0 [.bool (bP (¬ Ex (colF Wd Ht xs) true T)), .bool (bP (Mir (colF Wd Ht xs) T)), .bool (bP (Mir (colF Wd Ht xs) T ∧ Cen (colF Wd Ht xs) T))] = X3 at *
                replace HE := Hd.mk HE'
                replace HB := Hd.mk HB'
                clear HE' HB'
                by_cases hx0 : Ex (colF Wd Ht xs) true T
                · have HX0 := Hd.mk hx0
                  clear hx0
                  go_upto_region 7 with fail
                  refine wp_region_vd 3 [28, 29, 30] [0, 2] [] 84 [.int .i64 0, .int .i64 0] [isV (.pointer (some ⟨g9, 0, none⟩)), isV (.bool false), isV (.bool true)] (by rfl) alloc_Z ?_ ?_
                  · intro qi qh qA aa wx hb hs hd
                    match qi, qh, qA with
                    | 0, _, _ => exact .inl ⟨rfl, ⟨_, op_faD0 rfl (hs 9 rfl), rfl⟩⟩
                    | 1, _, _ => exact .inl ⟨rfl, wp_b (bool_eq (bP_false.2 (fun h7 => h7 HX0.out))) (op_ldB rfl rfl (hd 0 rfl) ((HE.out.to hb).cell 1 0 rfl rfl))⟩
                    | 2, _, _ => exact .inl ⟨rfl, ⟨_, op_not rfl (hd 1 rfl), rfl⟩⟩
                    | qi + 3, h, _ => omega
                  · intro vs X4 hb hv hal hne
                    have HL0 := Hd.mk (HE.out.lt)
                    have HBW := HB
                    replace HB := Hd.mk (bel_then HB.out hb)
                    replace HE : Hd (Env X4 [⟨w.heap.size, 24, [.int .i64 Wd, .int .i64 Ht, .slice (some ad) xs.length k]⟩, ⟨g9, 112, [.bool (bP (¬ Ex (colF Wd Ht xs) true T)), .bool (bP (Mir (colF Wd Ht xs) T)), .bool (bP (Mir (colF Wd Ht xs) T ∧ Cen (colF Wd Ht xs) T))]⟩]) := ⟨HE.out.to hb⟩
                    have HLS := HL0
                    have e30 : vs 30 = .bool true := hv 2 (by decide) rfl
                    simp only [putAll, List.foldl_cons, List.foldl_nil, Act.put, List.setIfInBounds_toArray, List.set_cons_succ, List.set_cons_zero, List.drop_succ_cons, List.drop_zero, e30]
                    generalize vs 28 = s28
                    generalize vs 29 = s29
                    clear hv hal hne hb HL0 HBW HLS e30
                    go_upto_region 8 with fail
                    refine wp_region_vd 2 [31, 32] [0, 1] [] 84 [.int .i64 0, .int .i64 0] [isV (.int .i64 (((fl : Nat) : Int))), isV (.int .i64 ((((fl : Nat) : Int)) + 1))] (by rfl) alloc_Z ?_ ?_
                    · intro qi qh qA aa wx hb hs hd
                      match qi, qh, qA with
                      | 0, _, _ => exact .inl ⟨rfl, op_mv rfl (hs 5 rfl)⟩
                      | 1, _, _ => exact .inl ⟨rfl, ⟨_, op_add (by unfold Fit; omega) rfl (hd 0 rfl) rfl, rfl⟩⟩
                      | qi + 2, h, _ => omega
                    · intro vs X5 hb hv hal hne
                      have HL0 := Hd.mk (HE.out.lt)
                      have HBW := HB
                      replace HB := Hd.mk (bel_then HB.out hb)
                      replace HE : Hd (Env X5 [⟨w.heap.size, 24, [.int .i64 Wd, .int .i64 Ht, .slice (some ad) xs.length k]⟩, ⟨g9, 112, [.bool (bP (¬ Ex (colF Wd Ht xs) true T)), .bool (bP (Mir (colF Wd Ht xs) T)), .bool (bP (Mir (colF Wd Ht xs) T ∧ Cen (colF Wd Ht xs) T))]⟩]) := ⟨HE.out.to hb⟩
                      have HLS := HL0
                      have e32 : vs 32 = .int .i64 ((((fl : Nat) : Int)) + 1) := hv 1 (by decide) rfl
                      simp only [putAll, List.foldl_cons, List.foldl_nil, Act.put, List.setIfInBounds_toArray, List.set_cons_succ, List.set_cons_zero, List.drop_succ_cons, List.drop_zero, e32]
                      generalize vs 31 = s31
                      clear hv hal hne hb HL0 HBW HLS e32
                      by_cases hx1 : Mir (colF Wd Ht xs) T
                      · have HX1 := Hd.mk hx1
                        clear hx1
                        go_upto_region 9 with fail
                        refine wp_region_vd 2 [33, 34] [0] [] 84 [.int .i64 0, .int .i64 0] [isV (.pointer (some ⟨g9, 1, none⟩)), isV (.bool true)] (by rfl) alloc_Z ?_ ?_
                        · intro qi qh qA aa wx hb hs hd
                          match qi, qh, qA with
                          | 0, _, _ => exact .inl ⟨rfl, ⟨_, op_faD1 rfl (hs 9 rfl), rfl⟩⟩
                          | 1, _, _ => exact .inl ⟨rfl, wp_b (bool_eq (bP_true.2 HX1.out)) (op_ldB rfl rfl (hd 0 rfl) ((HE.out.to hb).cell 1 1 rfl rfl))⟩
                          | qi + 2, h, _ => omega
                        · intro vs X6 hb hv hal hne
                          have HL0 := Hd.mk (HE.out.lt)
                          have HBW := HB
                          replace HB := Hd.mk (bel_then HB.out hb)
                          replace HE : Hd (Env X6 [⟨w.heap.size, 24, [.int .i64 Wd, .int .i64 Ht, .slice (some ad) xs.length k]⟩, ⟨g9, 112, [.bool (bP (¬ Ex (colF Wd Ht xs) true T)), .bool (bP (Mir (colF Wd Ht xs) T)), .bool (bP (Mir (colF Wd Ht xs) T ∧ Cen (colF Wd Ht xs) T))]⟩]) := ⟨HE.out.to hb⟩
                          have HLS := HL0
                          have e34 : vs 34 = .bool true := hv 1 (by decide) rfl
                          simp only [putAll, List.foldl_cons, List.foldl_nil, Act.put, List.setIfInBounds_toArray, List.set_cons_succ, List.set_cons_zero, List.drop_succ_cons, List.drop_zero, e34]
                          generalize vs 33 = s33
                          clear hv hal hne hb HL0 HBW HLS e34
                          go_upto_region 10 with fail
                          refine wp_region_vd 2 [35, 36] [0, 1] [] 84 [.int .i64 0, .int .i64 0] [isV (.int .i64 (((mi : Nat) : Int))), isV (.int .i64 ((((mi : Nat) : Int)) + 1))] (by rfl) alloc_Z ?_ ?_
                          · intro qi qh qA aa wx hb hs hd
                            match qi, qh, qA with
                            | 0, _, _ => exact .inl ⟨rfl, op_mv rfl (hs 6 rfl)⟩
                            | 1, _, _ => exact .inl ⟨rfl, ⟨_, op_add (by unfold Fit; omega) rfl (hd 0 rfl) rfl, rfl⟩⟩
                            | qi + 2, h, _ => omega
                          · intro vs X7 hb hv hal hne
                            have HL0 := Hd.mk (HE.out.lt)
                            have HBW := HB
                            replace HB := Hd.mk (bel_then HB.out hb)
                            replace HE : Hd (Env X7 [⟨w.heap.size, 24, [.int .i64 Wd, .int .i64 Ht, .slice (some ad) xs.length k]⟩, ⟨g9, 112, [.bool (bP (¬ Ex (colF Wd Ht xs) true T)), .bool (bP (Mir (colF Wd Ht xs) T)), .bool (bP (Mir (colF Wd Ht xs) T ∧ Cen (colF Wd Ht xs) T))]⟩]) := ⟨HE.out.to hb⟩
                            have HLS := HL0
                            have e36 : vs 36 = .int .i64 ((((mi : Nat) : Int)) + 1) := hv 1 (by decide) rfl
                            simp only [putAll, List.foldl_cons, List.foldl_nil, Act.put, List.setIfInBounds_toArray, List.set_cons_succ, List.set_cons_zero, List.drop_succ_cons, List.drop_zero, e36]
                            generalize vs 35 = s35
                            clear hv hal hne hb HL0 HBW HLS e36
                            by_cases hx2 : Mir (colF Wd Ht xs) T ∧ Cen (colF Wd Ht xs) T
                            · have HX2 := Hd.mk hx2
                              clear hx2
                              go_upto_region 11 with fail
                              refine wp_region_vd 2 [37, 38] [0] [] 84 [.int .i64 0, .int .i64 0] [isV (.pointer (some ⟨g9, 2, none⟩)), isV (.bool true)] (by rfl) alloc_Z ?_ ?_
                              · intro qi qh qA aa wx hb hs hd
                                match qi, qh, qA with
                                | 0, _, _ => exact .inl ⟨rfl, ⟨_, op_faD2 rfl (hs 9 rfl), rfl⟩⟩
                                | 1, _, _ => exact .inl ⟨rfl, wp_b (bool_eq (bP_true.2 HX2.out)) (op_ldB rfl rfl (hd 0 rfl) ((HE.out.to hb).cell 1 2 rfl rfl))⟩
                                | qi + 2, h, _ => omega
                              · intro vs X8 hb hv hal hne
                                have HL0 := Hd.mk (HE.out.lt)
                                have HBW := HB
                                replace HB := Hd.mk (bel_then HB.out hb)
                                replace HE : Hd (Env X8 [⟨w.heap.size, 24, [.int .i64 Wd, .int .i64 Ht, .slice (some ad) xs.length k]⟩, ⟨g9, 112, [.bool (bP (¬ Ex (colF Wd Ht xs) true T)), .bool (bP (Mir (colF Wd Ht xs) T)), .bool (bP (Mir (colF Wd Ht xs) T ∧ Cen (colF Wd Ht xs) T))]⟩]) := ⟨HE.out.to hb⟩
                                have HLS := HL0
                                have e38 : vs 38 = .bool true := hv 1 (by decide) rfl
                                simp only [putAll, List.foldl_cons, List.foldl_nil, Act.put, List.setIfInBounds_toArray, List.set_cons_succ, List.set_cons_zero, List.drop_succ_cons, List.drop_zero, e38]
                                generalize vs 37 = s37
                                clear hv hal hne hb HL0 HBW HLS e38
                                go_upto_region 12 with fail
                                refine wp_region_vd 2 [39, 40] [0, 1] [] 84 [.int .i64 0, .int .i64 0] [isV (.int .i64 (((ce : Nat) : Int))), isV (.int .i64 ((((ce : Nat) : Int)) + 1))] (by rfl) alloc_Z ?_ ?_
                                · intro qi qh qA aa wx hb hs hd
                                  match qi, qh, qA with
                                  | 0, _, _ => exact .inl ⟨rfl, op_mv rfl (hs 7 rfl)⟩
                                  | 1, _, _ => exact .inl ⟨rfl, ⟨_, op_add (by unfold Fit; omega) rfl (hd 0 rfl) rfl, rfl⟩⟩
                                  | qi + 2, h, _ => omega
                                · intro vs X9 hb hv hal hne
                                  have HL0 := Hd.mk (HE.out.lt)
                                  have HBW := HB
                                  replace HB := Hd.mk (bel_then HB.out hb)
                                  replace HE : Hd (Env X9 [⟨w.heap.size, 24, [.int .i64 Wd, .int .i64 Ht, .slice (some ad) xs.length k]⟩, ⟨g9, 112, [.bool (bP (¬ Ex (colF Wd Ht xs) true T)), .bool (bP (Mir (colF Wd Ht xs) T)), .bool (bP (Mir (colF Wd Ht xs) T ∧ Cen (colF Wd Ht xs) T))]⟩]) := ⟨HE.out.to hb⟩
                                  have HLS := HL0
                                  have e40 : vs 40 = .int .i64 ((((ce : Nat) : Int)) + 1) := hv 1 (by decide) rfl
                                  simp only [putAll, List.foldl_cons, List.foldl_nil, Act.put, List.setIfInBounds_toArray, List.set_cons_succ, List.set_cons_zero, List.drop_succ_cons, List.drop_zero, e40]
                                  generalize vs 39 = s39
                                  clear hv hal hne hb HL0 HBW HLS e40
                                  go_wp2_with fail
                                  go_roundw
                                  case rel => exact ⟨T + 1, by omega, by rw [cntN_yes HX0.out, HFL.out]; go_num, by rw [cntN_yes HX1.out, HMI.out]; go_num, by rw [cntN_yes HX2.out, HCE.out]; go_num, by go_num, ⟨Env.front (L := [⟨w.heap.size, 24, [.int .i64 Wd, .int .i64 Ht, .slice (some ad) xs.length k]⟩]) HE.out, HB.out⟩⟩
                                  case measure => simp [intOf]; omega
                            · have HX2 := Hd.mk hx2
                              clear hx2
                              go_upto_region 11 with fail
                              refine wp_region_vd 2 [37, 38] [0] [] 84 [.int .i64 0, .int .i64 0] [isV (.pointer (some ⟨g9, 2, none⟩)), isV (.bool false)] (by rfl) alloc_Z ?_ ?_
                              · intro qi qh qA aa wx hb hs hd
                                match qi, qh, qA with
                                | 0, _, _ => exact .inl ⟨rfl, ⟨_, op_faD2 rfl (hs 9 rfl), rfl⟩⟩
                                | 1, _, _ => exact .inl ⟨rfl, wp_b (bool_eq (bP_false.2 HX2.out)) (op_ldB rfl rfl (hd 0 rfl) ((HE.out.to hb).cell 1 2 rfl rfl))⟩
                                | qi + 2, h, _ => omega
                              · intro vs X8 hb hv hal hne
                                have HL0 := Hd.mk (HE.out.lt)
                                have HBW := HB
                                replace HB := Hd.mk (bel_then HB.out hb)
                                replace HE : Hd (Env X8 [⟨w.heap.size, 24, [.int .i64 Wd, .int .i64 Ht, .slice (some ad) xs.length k]⟩, ⟨g9, 112, [.bool (bP (¬ Ex (colF Wd Ht xs) true T)), .bool (bP (Mir (colF Wd Ht xs) T)), .bool (bP (Mir (colF Wd Ht xs) T ∧ Cen (colF Wd Ht xs) T))]⟩]) := ⟨HE.out.to hb⟩
                                have HLS := HL0
                                have e38 : vs 38 = .bool false := hv 1 (by decide) rfl
                                simp only [putAll, List.foldl_cons, List.foldl_nil, Act.put, List.setIfInBounds_toArray, List.set_cons_succ, List.set_cons_zero, List.drop_succ_cons, List.drop_zero, e38]
                                generalize vs 37 = s37
                                clear hv hal hne hb HL0 HBW HLS e38
                                go_wp2_with fail
                                go_roundw
                                case rel => exact ⟨T + 1, by omega, by rw [cntN_yes HX0.out, HFL.out]; go_num, by rw [cntN_yes HX1.out, HMI.out]; go_num, by rw [cntN_no HX2.out, HCE.out], by go_num, ⟨Env.front (L := [⟨w.heap.size, 24, [.int .i64 Wd, .int .i64 Ht, .slice (some ad) xs.length k]⟩]) HE.out, HB.out⟩⟩
                                case measure => simp [intOf]; omega
                      · have HX1 := Hd.mk hx1
                        clear hx1
                        go_upto_region 9 with fail
                        refine wp_region_vd 2 [33, 34] [0] [] 84 [.int .i64 0, .int .i64 0] [isV (.pointer (some ⟨g9, 1, none⟩)), isV (.bool false)] (by rfl) alloc_Z ?_ ?_
                        · intro qi qh qA aa wx hb hs hd
                          match qi, qh, qA with
                          | 0, _, _ => exact .inl ⟨rfl, ⟨_, op_faD1 rfl (hs 9 rfl), rfl⟩⟩
                          | 1, _, _ => exact .inl ⟨rfl, wp_b (bool_eq (bP_false.2 HX1.out)) (op_ldB rfl rfl (hd 0 rfl) ((HE.out.to hb).cell 1 1 rfl rfl))⟩
                          | qi + 2, h, _ => omega
                        · intro vs X6 hb hv hal hne
                          have HL0 := Hd.mk (HE.out.lt)
                          have HBW := HB
                          replace HB := Hd.mk (bel_then HB.out hb)
                          replace HE : Hd (Env X6 [⟨w.heap.size, 24, [.int .i64 Wd, .int .i64 Ht, .slice (some ad) xs.length k]⟩, ⟨g9, 112, [.bool (bP (¬ Ex (colF Wd Ht xs) true T)), .bool (bP (Mir (colF Wd Ht xs) T)), .bool (bP (Mir (colF Wd Ht xs) T ∧ Cen (colF Wd Ht xs) T))]⟩]) := ⟨HE.out.to hb⟩
                          have HLS := HL0
                          have e34 : vs 34 = .bool false := hv 1 (by decide) rfl
                          simp only [putAll, List.foldl_cons, List.foldl_nil, Act.put, List.setIfInBounds_toArray, List.set_cons_succ, List.set_cons_zero, List.drop_succ_cons, List.drop_zero, e34]
                          generalize vs 33 = s33
                          clear hv hal hne hb HL0 HBW HLS e34
                          by_cases hx2 : Mir (colF Wd Ht xs) T ∧ Cen (colF Wd Ht xs) T
                          · have HX2 := Hd.mk hx2
                            clear hx2
                            go_upto_region 11 with fail
                            refine wp_region_vd 2 [37, 38] [0] [] 84 [.int .i64 0, .int .i64 0] [isV (.pointer (some ⟨g9, 2, none⟩)), isV (.bool true)] (by rfl) alloc_Z ?_ ?_
                            · intro qi qh qA aa wx hb hs hd
                              match qi, qh, qA with
                              | 0, _, _ => exact .inl ⟨rfl, ⟨_, op_faD2 rfl (hs 9 rfl), rfl⟩⟩
                              | 1, _, _ => exact .inl ⟨rfl, wp_b (bool_eq (bP_true.2 HX2.out)) (op_ldB rfl rfl (hd 0 rfl) ((HE.out.to hb).cell 1 2 rfl rfl))⟩
                              | qi + 2, h, _ => omega
                            · intro vs X7 hb hv hal hne
                              have HL0 := Hd.mk (HE.out.lt)
                              have HBW := HB
                              replace HB := Hd.mk (bel_then HB.out hb)
                              replace HE : Hd (Env X7 [⟨w.heap.size, 24, [.int .i64 Wd, .int .i64 Ht, .slice (some ad) xs.length k]⟩, ⟨g9, 112, [.bool (bP (¬ Ex (colF Wd Ht xs) true T)), .bool (bP (Mir (colF Wd Ht xs) T)), .bool (bP (Mir (colF Wd Ht xs) T ∧ Cen (colF Wd Ht xs) T))]⟩]) := ⟨HE.out.to hb⟩
                              have HLS := HL0
                              have e38 : vs 38 = .bool true := hv 1 (by decide) rfl
                              simp only [putAll, List.foldl_cons, List.foldl_nil, Act.put, List.setIfInBounds_toArray, List.set_cons_succ, List.set_cons_zero, List.drop_succ_cons, List.drop_zero, e38]
                              generalize vs 37 = s37
                              clear hv hal hne hb HL0 HBW HLS e38
                              go_upto_region 12 with fail
                              refine wp_region_vd 2 [39, 40] [0, 1] [] 84 [.int .i64 0, .int .i64 0] [isV (.int .i64 (((ce : Nat) : Int))), isV (.int .i64 ((((ce : Nat) : Int)) + 1))] (by rfl) alloc_Z ?_ ?_
                              · intro qi qh qA aa wx hb hs hd
                                match qi, qh, qA with
                                | 0, _, _ => exact .inl ⟨rfl, op_mv rfl (hs 7 rfl)⟩
                                | 1, _, _ => exact .inl ⟨rfl, ⟨_, op_add (by unfold Fit; omega) rfl (hd 0 rfl) rfl, rfl⟩⟩
                                | qi + 2, h, _ => omega
                              · intro vs X8 hb hv hal hne
                                have HL0 := Hd.mk (HE.out.lt)
                                have HBW := HB
                                replace HB := Hd.mk (bel_then HB.out hb)
                                replace HE : Hd (Env X8 [⟨w.heap.size, 24, [.int .i64 Wd, .int .i64 Ht, .slice (some ad) xs.length k]⟩, ⟨g9, 112, [.bool (bP (¬ Ex (colF Wd Ht xs) true T)), .bool (bP (Mir (colF Wd Ht xs) T)), .bool (bP (Mir (colF Wd Ht xs) T ∧ Cen (colF Wd Ht xs) T))]⟩]) := ⟨HE.out.to hb⟩
                                have HLS := HL0
                                have e40 : vs 40 = .int .i64 ((((ce : Nat) : Int)) + 1) := hv 1 (by decide) rfl
                                simp only [putAll, List.foldl_cons, List.foldl_nil, Act.put, List.setIfInBounds_toArray, List.set_cons_succ, List.set_cons_zero, List.drop_succ_cons, List.drop_zero, e40]
                                generalize vs 39 = s39
                                clear hv hal hne hb HL0 HBW HLS e40
                                go_wp2_with fail
                                go_roundw
                                case rel => exact ⟨T + 1, by omega, by rw [cntN_yes HX0.out, HFL.out]; go_num, by rw [cntN_no HX1.out, HMI.out], by rw [cntN_yes HX2.out, HCE.out]; go_num, by go_num, ⟨Env.front (L := [⟨w.heap.size, 24, [.int .i64 Wd, .int .i64 Ht, .slice (some ad) xs.length k]⟩]) HE.out, HB.out⟩⟩
                                case measure => simp [intOf]; omega
                          · have HX2 := Hd.mk hx2
                            clear hx2
                            go_upto_region 11 with fail
                            refine wp_region_vd 2 [37, 38] [0] [] 84 [.int .i64 0, .int .i64 0] [isV (.pointer (some ⟨g9, 2, none⟩)), isV (.bool false)] (by rfl) alloc_Z ?_ ?_
                            · intro qi qh qA aa wx hb hs hd
                              match qi, qh, qA with
                              | 0, _, _ => exact .inl ⟨rfl, ⟨_, op_faD2 rfl (hs 9 rfl), rfl⟩⟩
                              | 1, _, _ => exact .inl ⟨rfl, wp_b (bool_eq (bP_false.2 HX2.out)) (op_ldB rfl rfl (hd 0 rfl) ((HE.out.to hb).cell 1 2 rfl rfl))⟩
                              | qi + 2, h, _ => omega
                            · intro vs X7 hb hv hal hne
                              have HL0 := Hd.mk (HE.out.lt)
                              have HBW := HB
                              replace HB := Hd.mk (bel_then HB.out hb)
                              replace HE : Hd (Env X7 [⟨w.heap.size, 24, [.int .i64 Wd, .int .i64 Ht, .slice (some ad) xs.length k]⟩, ⟨g9, 112, [.bool (bP (¬ Ex (colF Wd Ht xs) true T)), .bool (bP (Mir (colF Wd Ht xs) T)), .bool (bP (Mir (colF Wd Ht xs) T ∧ Cen (colF Wd Ht xs) T))]⟩]) := ⟨HE.out.to hb⟩
                              have HLS := HL0
                              have e38 : vs 38 = .bool false := hv 1 (by decide) rfl
                              simp only [putAll, List.foldl_cons, List.foldl_nil, Act.put, List.setIfInBounds_toArray, List.set_cons_succ, List.set_cons_zero, List.drop_succ_cons, List.drop_zero, e38]
                              generalize vs 37 = s37
                              clear hv hal hne hb HL0 HBW HLS e38
                              go_wp2_with fail
                              go_roundw
                              case rel => exact ⟨T + 1, by omega, by rw [cntN_yes HX0.out, HFL.out]; go_num, by rw [cntN_no HX1.out, HMI.out], by rw [cntN_no HX2.out, HCE.out], by go_num, ⟨Env.front (L := [⟨w.heap.size, 24, [.int .i64 Wd, .int .i64 Ht, .slice (some ad) xs.length k]⟩]) HE.out, HB.out⟩⟩
                              case measure => simp [intOf]; omega
                · have HX0 := Hd.mk hx0
                  clear hx0
                  go_upto_region 7 with fail
                  refine wp_region_vd 3 [28, 29, 30] [0, 2] [] 84 [.int .i64 0, .int .i64 0] [isV (.pointer (some ⟨g9, 0, none⟩)), isV (.bool true), isV (.bool false)] (by rfl) alloc_Z ?_ ?_
                  · intro qi qh qA aa wx hb hs hd
                    match qi, qh, qA with
                    | 0, _, _ => exact .inl ⟨rfl, ⟨_, op_faD0 rfl (hs 9 rfl), rfl⟩⟩
                    | 1, _, _ => exact .inl ⟨rfl, wp_b (bool_eq (bP_true.2 HX0.out)) (op_ldB rfl rfl (hd 0 rfl) ((HE.out.to hb).cell 1 0 rfl rfl))⟩
                    | 2, _, _ => exact .inl ⟨rfl, ⟨_, op_not rfl (hd 1 rfl), rfl⟩⟩
                    | qi + 3, h, _ => omega
                  · intro vs X4 hb hv hal hne
                    have HL0 := Hd.mk (HE.out.lt)
                    have HBW := HB
                    replace HB := Hd.mk (bel_then HB.out hb)
                    replace HE : Hd (Env X4 [⟨w.heap.size, 24, [.int .i64 Wd, .int .i64 Ht, .slice (some ad) xs.length k]⟩, ⟨g9, 112, [.bool (bP (¬ Ex (colF Wd Ht xs) true T)), .bool (bP (Mir (colF Wd Ht xs) T)), .bool (bP (Mir (colF Wd Ht xs) T ∧ Cen (colF Wd Ht xs) T))]⟩]) := ⟨HE.out.to hb⟩
                    have HLS := HL0
                    have e30 : vs 30 = .bool false := hv 2 (by decide) rfl
                    simp only [putAll, List.foldl_cons, List.foldl_nil, Act.put, List.setIfInBounds_toArray, List.set_cons_succ, List.set_cons_zero, List.drop_succ_cons, List.drop_zero, e30]
                    generalize vs 28 = s28
                    generalize vs 29 = s29
                    clear hv hal hne hb HL0 HBW HLS e30
                    by_cases hx1 : Mir (colF Wd Ht xs) T
                    · have HX1 := Hd.mk hx1
                      clear hx1
                      go_upto_region 9 with fail
                      refine wp_region_vd 2 [33, 34] [0] [] 84 [.int .i64 0, .int .i64 0] [isV (.pointer (some ⟨g9, 1, none⟩)), isV (.bool true)] (by rfl) alloc_Z ?_ ?_
                      · intro qi qh qA aa wx hb hs hd
                        match qi, qh, qA with
                        | 0, _, _ => exact .inl ⟨rfl, ⟨_, op_faD1 rfl (hs 9 rfl), rfl⟩⟩
                        | 1, _, _ => exact .inl ⟨rfl, wp_b (bool_eq (bP_true.2 HX1.out)) (op_ldB rfl rfl (hd 0 rfl) ((HE.out.to hb).cell 1 1 rfl rfl))⟩
                        | qi + 2, h, _ => omega
                      · intro vs X5 hb hv hal hne
                        have HL0 := Hd.mk (HE.out.lt)
                        have HBW := HB
                        replace HB := Hd.mk (bel_then HB.out hb)
                        replace HE : Hd (Env X5 [⟨w.heap.size, 24, [.int .i64 Wd, .int .i64 Ht, .slice (some ad) xs.length k]⟩, ⟨g9, 112, [.bool (bP (¬ Ex (colF Wd Ht xs) true T)), .bool (bP (Mir (colF Wd Ht xs) T)), .bool (bP (Mir (colF Wd Ht xs) T ∧ Cen (colF Wd Ht xs) T))]⟩]) := ⟨HE.out.to hb⟩
                        have HLS := HL0
                        have e34 : vs 34 = .bool true := hv 1 (by decide) rfl
                        simp only [putAll, List.foldl_cons, List.foldl_nil, Act.put, List.setIfInBounds_toArray, List.set_cons_succ, List.set_cons_zero, List.drop_succ_cons, List.drop_zero, e34]
                        generalize vs 33 = s33
                        clear hv hal hne hb HL0 HBW HLS e34
                        go_upto_region 10 with fail
                        refine wp_region_vd 2 [35, 36] [0, 1] [] 84 [.int .i64 0, .int .i64 0] [isV (.int .i64 (((mi : Nat) : Int))), isV (.int .i64 ((((mi : Nat) : Int)) + 1))] (by rfl) alloc_Z ?_ ?_
                        · intro qi qh qA aa wx hb hs hd
                          match qi, qh, qA with
                          | 0, _, _ => exact .inl ⟨rfl, op_mv rfl (hs 6 rfl)⟩
                          | 1, _, _ => exact .inl ⟨rfl, ⟨_, op_add (by unfold Fit; omega) rfl (hd 0 rfl) rfl, rfl⟩⟩
                          | qi + 2, h, _ => omega
                        · intro vs X6 hb hv hal hne
                          have HL0 := Hd.mk (HE.out.lt)
                          have HBW := HB
                          replace HB := Hd.mk (bel_then HB.out hb)
                          replace HE : Hd (Env X6 [⟨w.heap.size, 24, [.int .i64 Wd, .int .i64 Ht, .slice (some ad) xs.length k]⟩, ⟨g9, 112, [.bool (bP (¬ Ex (colF Wd Ht xs) true T)), .bool (bP (Mir (colF Wd Ht xs) T)), .bool (bP (Mir (colF Wd Ht xs) T ∧ Cen (colF Wd Ht xs) T))]⟩]) := ⟨HE.out.to hb⟩
                          have HLS := HL0
                          have e36 : vs 36 = .int .i64 ((((mi : Nat) : Int)) + 1) := hv 1 (by decide) rfl
                          simp only [putAll, List.foldl_cons, List.foldl_nil, Act.put, List.setIfInBounds_toArray, List.set_cons_succ, List.set_cons_zero, List.drop_succ_cons, List.drop_zero, e36]
                          generalize vs 35 = s35
                          clear hv hal hne hb HL0 HBW HLS e36
                          by_cases hx2 : Mir (colF Wd Ht xs) T ∧ Cen (colF Wd Ht xs) T
                          · have HX2 := Hd.mk hx2
                            clear hx2
                            go_upto_region 11 with fail
                            refine wp_region_vd 2 [37, 38] [0] [] 84 [.int .i64 0, .int .i64 0] [isV (.pointer (some ⟨g9, 2, none⟩)), isV (.bool true)] (by rfl) alloc_Z ?_ ?_
                            · intro qi qh qA aa wx hb hs hd
                              match qi, qh, qA with
                              | 0, _, _ => exact .inl ⟨rfl, ⟨_, op_faD2 rfl (hs 9 rfl), rfl⟩⟩
                              | 1, _, _ => exact .inl ⟨rfl, wp_b (bool_eq (bP_true.2 HX2.out)) (op_ldB rfl rfl (hd 0 rfl) ((HE.out.to hb).cell 1 2 rfl rfl))⟩
                              | qi + 2, h, _ => omega
                            · intro vs X7 hb hv hal hne
                              have HL0 := Hd.mk (HE.out.lt)
                              have HBW := HB
                              replace HB := Hd.mk (bel_then HB.out hb)
                              replace HE : Hd (Env X7 [⟨w.heap.size, 24, [.int .i64 Wd, .int .i64 Ht, .slice (some ad) xs.length k]⟩, ⟨g9, 112, [.bool (bP (¬ Ex (colF Wd Ht xs) true T)), .bool (bP (Mir (colF Wd Ht xs) T)), .bool (bP (Mir (colF Wd Ht xs) T ∧ Cen (colF Wd Ht xs) T))]⟩]) := ⟨HE.out.to hb⟩
                              have HLS := HL0
                              have e38 : vs 38 = .bool true := hv 1 (by decide) rfl
                              simp only [putAll, List.foldl_cons, List.foldl_nil, Act.put, List.setIfInBounds_toArray, List.set_cons_succ, List.set_cons_zero, List.drop_succ_cons, List.drop_zero, e38]
                              generalize vs 37 = s37
                              clear hv hal hne hb HL0 HBW HLS e38
                              go_upto_region 12 with fail
                              refine wp_region_vd 2 [39, 40] [0, 1] [] 84 [.int .i64 0, .int .i64 0] [isV (.int .i64 (((ce : Nat) : Int))), isV (.int .i64 ((((ce : Nat) : Int)) + 1))] (by rfl) alloc_Z ?_ ?_
                              · intro qi qh qA aa wx hb hs hd
                                match qi, qh, qA with
                                | 0, _, _ => exact .inl ⟨rfl, op_mv rfl (hs 7 rfl)⟩
                                | 1, _, _ => exact .inl ⟨rfl, ⟨_, op_add (by unfold Fit; omega) rfl (hd 0 rfl) rfl, rfl⟩⟩
                                | qi + 2, h, _ => omega
                              · intro vs X8 hb hv hal hne
                                have HL0 := Hd.mk (HE.out.lt)
                                have HBW := HB
                                replace HB := Hd.mk (bel_then HB.out hb)
                                replace HE : Hd (Env X8 [⟨w.heap.size, 24, [.int .i64 Wd, .int .i64 Ht, .slice (some ad) xs.length k]⟩, ⟨g9, 112, [.bool (bP (¬ Ex (colF Wd Ht xs) true T)), .bool (bP (Mir (colF Wd Ht xs) T)), .bool (bP (Mir (colF Wd Ht xs) T ∧ Cen (colF Wd Ht xs) T))]⟩]) := ⟨HE.out.to hb⟩
                                have HLS := HL0
                                have e40 : vs 40 = .int .i64 ((((ce : Nat) : Int)) + 1) := hv 1 (by decide) rfl
                                simp only [putAll, List.foldl_cons, List.foldl_nil, Act.put, List.setIfInBounds_toArray, List.set_cons_succ, List.set_cons_zero, List.drop_succ_cons, List.drop_zero, e40]
                                generalize vs 39 = s39
                                clear hv hal hne hb HL0 HBW HLS e40
                                go_wp2_with fail
                                go_roundw
                                case rel => exact ⟨T + 1, by omega, by rw [cntN_no HX0.out, HFL.out], by rw [cntN_yes HX1.out, HMI.out]; go_num, by rw [cntN_yes HX2.out, HCE.out]; go_num, by go_num, ⟨Env.front (L := [⟨w.heap.size, 24, [.int .i64 Wd, .int .i64 Ht, .slice (some ad) xs.length k]⟩]) HE.out, HB.out⟩⟩
                                case measure => simp [intOf]; omega
                          · have HX2 := Hd.mk hx2
                            clear hx2
                            go_upto_region 11 with fail
                            refine wp_region_vd 2 [37, 38] [0] [] 84 [.int .i64 0, .int .i64 0] [isV (.pointer (some ⟨g9, 2, none⟩)), isV (.bool false)] (by rfl) alloc_Z ?_ ?_
                            · intro qi qh qA aa wx hb hs hd
                              match qi, qh, qA with
                              | 0, _, _ => exact .inl ⟨rfl, ⟨_, op_faD2 rfl (hs 9 rfl), rfl⟩⟩
                              | 1, _, _ => exact .inl ⟨rfl, wp_b (bool_eq (bP_false.2 HX2.out)) (op_ldB rfl rfl (hd 0 rfl) ((HE.out.to hb).cell 1 2 rfl rfl))⟩
                              | qi + 2, h, _ => omega
                            · intro vs X7 hb hv hal hne
                              have HL0 := Hd.mk (HE.out.lt)
                              have HBW := HB
                              replace HB := Hd.mk (bel_then HB.out hb)
                              replace HE : Hd (Env X7 [⟨w.heap.size, 24, [.int .i64 Wd, .int .i64 Ht, .slice (some ad) xs.length k]⟩, ⟨g9, 112, [.bool (bP (¬ Ex (colF Wd Ht xs) true T)), .bool (bP (Mir (colF Wd Ht xs) T)), .bool (bP (Mir (colF Wd Ht xs) T ∧ Cen (colF Wd Ht xs) T))]⟩]) := ⟨HE.out.to hb⟩
                              have HLS := HL0
                              have e38 : vs 38 = .bool false := hv 1 (by decide) rfl
                              simp only [putAll, List.foldl_cons, List.foldl_nil, Act.put, List.setIfInBounds_toArray, List.set_cons_succ, List.set_cons_zero, List.drop_succ_cons, List.drop_zero, e38]
                              generalize vs 37 = s37
                              clear hv hal hne hb HL0 HBW HLS e38
                              go_wp2_with fail
                              go_roundw
                              case rel => exact ⟨T + 1, by omega, by rw [cntN_no HX0.out, HFL.out], by rw [cntN_yes HX1.out, HMI.out]; go_num, by rw [cntN_no HX2.out, HCE.out], by go_num, ⟨Env.front (L := [⟨w.heap.size, 24, [.int .i64 Wd, .int .i64 Ht, .slice (some ad) xs.length k]⟩]) HE.out, HB.out⟩⟩
                              case measure => simp [intOf]; omega
                    · have HX1 := Hd.mk hx1
                      clear hx1
                      go_upto_region 9 with fail
                      refine wp_region_vd 2 [33, 34] [0] [] 84 [.int .i64 0, .int .i64 0] [isV (.pointer (some ⟨g9, 1, none⟩)), isV (.bool false)] (by rfl) alloc_Z ?_ ?_
                      · intro qi qh qA aa wx hb hs hd
                        match qi, qh, qA with
                        | 0, _, _ => exact .inl ⟨rfl, ⟨_, op_faD1 rfl (hs 9 rfl), rfl⟩⟩
                        | 1, _, _ => exact .inl ⟨rfl, wp_b (bool_eq (bP_false.2 HX1.out)) (op_ldB rfl rfl (hd 0 rfl) ((HE.out.to hb).cell 1 1 rfl rfl))⟩
                        | qi + 2, h, _ => omega
                      · intro vs X5 hb hv hal hne
                        have HL0 := Hd.mk (HE.out.lt)
                        have HBW := HB
                        replace HB := Hd.mk (bel_then HB.out hb)
                        replace HE : Hd (Env X5 [⟨w.heap.size, 24, [.int .i64 Wd, .int .i64 Ht, .slice (some ad) xs.length k]⟩, ⟨g9, 112, [.bool (bP (¬ Ex (colF Wd Ht xs) true T)), .bool (bP (Mir (colF Wd Ht xs) T)), .bool (bP (Mir (colF Wd Ht xs) T ∧ Cen (colF Wd Ht xs) T))]⟩]) := ⟨HE.out.to hb⟩
                        have HLS := HL0
                        have e34 : vs 34 = .bool false := hv 1 (by decide) rfl
                        simp only [putAll, List.foldl_cons, List.foldl_nil, Act.put, List.setIfInBounds_toArray, List.set_cons_succ, List.set_cons_zero, List.drop_succ_cons, List.drop_zero, e34]
                        generalize vs 33 = s33
                        clear hv hal hne hb HL0 HBW HLS e34
                        by_cases hx2 : Mir (colF Wd Ht xs) T ∧ Cen (colF Wd Ht xs) T
                        · have HX2 := Hd.mk hx2
                          clear hx2
                          go_upto_region 11 with fail
                          refine wp_region_vd 2 [37, 38] [0] [] 84 [.int .i64 0, .int .i64 0] [isV (.pointer (some ⟨g9, 2, none⟩)), isV (.bool true)] (by rfl) alloc_Z ?_ ?_
                          · intro qi qh qA aa wx hb hs hd
                            match qi, qh, qA with
                            | 0, _, _ => exact .inl ⟨rfl, ⟨_, op_faD2 rfl (hs 9 rfl), rfl⟩⟩
                            | 1, _, _ => exact .inl ⟨rfl, wp_b (bool_eq (bP_true.2 HX2.out)) (op_ldB rfl rfl (hd 0 rfl) ((HE.out.to hb).cell 1 2 rfl rfl))⟩
                            | qi + 2, h, _ => omega
                          · intro vs X6 hb hv hal hne
                            have HL0 := Hd.mk (HE.out.lt)
                            have HBW := HB
                            replace HB := Hd.mk (bel_then HB.out hb)
                            replace HE : Hd (Env X6 [⟨w.heap.size, 24, [.int .i64 Wd, .int .i64 Ht, .slice (some ad) xs.length k]⟩, ⟨g9, 112, [.bool (bP (¬ Ex (colF Wd Ht xs) true T)), .bool (bP (Mir (colF Wd Ht xs) T)), .bool (bP (Mir (colF Wd Ht xs) T ∧ Cen (colF Wd Ht xs) T))]⟩]) := ⟨HE.out.to hb⟩
                            have HLS := HL0
                            have e38 : vs 38 = .bool true := hv 1 (by decide) rfl
                            simp only [putAll, List.foldl_cons, List.foldl_nil, Act.put, List.setIfInBounds_toArray, List.set_cons_succ, List.set_cons_zero, List.drop_succ_cons, List.drop_zero, e38]
                            generalize vs 37 = s37
                            clear hv hal hne hb HL0 HBW HLS e38
                            go_upto_region 12 with fail
                            refine wp_region_vd 2 [39, 40] [0, 1] [] 84 [.int .i64 0, .int .i64 0] [isV (.int .i64 (((ce : Nat) : Int))), isV (.int .i64 ((((ce : Nat) : Int)) + 1))] (by rfl) alloc_Z ?_ ?_
                            · intro qi qh qA aa wx hb hs hd
                              match qi, qh, qA with
                              | 0, _, _ => exact .inl ⟨rfl, op_mv rfl (hs 7 rfl)⟩
                              | 1, _, _ => exact .inl ⟨rfl, ⟨_, op_add (by unfold Fit; omega) rfl (hd 0 rfl) rfl, rfl⟩⟩
                              | qi + 2, h, _ => omega
                            · intro vs X7 hb hv hal hne
                              have HL0 := Hd.mk (HE.out.lt)
                              have HBW := HB
                              replace HB := Hd.mk (bel_then HB.out hb)
                              replace HE : Hd (Env X7 [⟨w.heap.size, 24, [.int .i64 Wd, .int .i64 Ht, .slice (some ad) xs.length k]⟩, ⟨g9, 112, [.bool (bP (¬ Ex (colF Wd Ht xs) true T)), .bool (bP (Mir (colF Wd Ht xs) T)), .bool (bP (Mir (colF Wd Ht xs) T ∧ Cen (colF Wd Ht xs) T))]⟩]) := ⟨HE.out.to hb⟩
                              have HLS := HL0
                              have e40 : vs 40 = .int .i64 ((((ce : Nat) : Int)) + 1) := hv 1 (by decide) rfl
                              simp only [putAll, List.foldl_cons, List.foldl_nil, Act.put, List.setIfInBounds_toArray, List.set_cons_succ, List.set_cons_zero, List.drop_succ_cons, List.drop_zero, e40]
                              generalize vs 39 = s39
                              clear hv hal hne hb HL0 HBW HLS e40
                              go_wp2_with fail
                              go_roundw
                              case rel => exact ⟨T + 1, by omega, by rw [cntN_no HX0.out, HFL.out], by rw [cntN_no HX1.out, HMI.out], by rw [cntN_yes HX2.out, HCE.out]; go_num, by go_num, ⟨Env.front (L := [⟨w.heap.size, 24, [.int .i64 Wd, .int .i64 Ht, .slice (some ad) xs.length k]⟩]) HE.out, HB.out⟩⟩
                              case measure => simp [intOf]; omega
                        · have HX2 := Hd.mk hx2
                          clear hx2
                          go_upto_region 11 with fail
                          refine wp_region_vd 2 [37, 38] [0] [] 84 [.int .i64 0, .int .i64 0] [isV (.pointer (some ⟨g9, 2, none⟩)), isV (.bool false)] (by rfl) alloc_Z ?_ ?_
                          · intro qi qh qA aa wx hb hs hd
                            match qi, qh, qA with
                            | 0, _, _ => exact .inl ⟨rfl, ⟨_, op_faD2 rfl (hs 9 rfl), rfl⟩⟩
                            | 1, _, _ => exact .inl ⟨rfl, wp_b (bool_eq (bP_false.2 HX2.out)) (op_ldB rfl rfl (hd 0 rfl) ((HE.out.to hb).cell 1 2 rfl rfl))⟩
                            | qi + 2, h, _ => omega
                          · intro vs X6 hb hv hal hne
                            have HL0 := Hd.mk (HE.out.lt)
                            have HBW := HB
                            replace HB := Hd.mk (bel_then HB.out hb)
                            replace HE : Hd (Env X6 [⟨w.heap.size, 24, [.int .i64 Wd, .int .i64 Ht, .slice (some ad) xs.length k]⟩, ⟨g9, 112, [.bool (bP (¬ Ex (colF Wd Ht xs) true T)), .bool (bP (Mir (colF Wd Ht xs) T)), .bool (bP (Mir (colF Wd Ht xs) T ∧ Cen (colF Wd Ht xs) T))]⟩]) := ⟨HE.out.to hb⟩
                            have HLS := HL0
                            have e38 : vs 38 = .bool false := hv 1 (by decide) rfl
                            simp only [putAll, List.foldl_cons, List.foldl_nil, Act.put, List.setIfInBounds_toArray, List.set_cons_succ, List.set_cons_zero, List.drop_succ_cons, List.drop_zero, e38]
                            generalize vs 37 = s37
                            clear hv hal hne hb HL0 HBW HLS e38
                            go_wp2_with fail
                            go_roundw
                            case rel => exact ⟨T + 1, by omega, by rw [cntN_no HX0.out, HFL.out], by rw [cntN_no HX1.out, HMI.out], by rw [cntN_no HX2.out, HCE.out], by go_num, ⟨Env.front (L := [⟨w.heap.size, 24, [.int .i64 Wd, .int .i64 Ht, .slice (some ad) xs.length k]⟩]) HE.out, HB.out⟩⟩
                            case measure => simp [intOf]; omega
          · have eT : T = 4 := by omega
            subst eT
            have HRES : Hd (kindF (colF Wd Ht xs) = kindR q h fl mi (decide (0 < ce))) := ⟨by rw [kindF_R, HFL.out, HMI.out, HCE.out, HQ.out, HH2.out]⟩
            clear HFL HMI HCE
            rcases (show q = true ∨ q = false by cases q <;> simp) with hq0 | hq0
            · have HQV := Hd.mk hq0
              clear hq0
              by_cases h0 : fl = 0
              · skip
                go_upto_region 14 with fail
                refine wp_region_vd 5 [43, 44, 45, 46, 47] [0, 1, 2, 3, 4] [] 84 [.int .i64 0, .int .i64 0] [isV (.bool true), isV (.bool true), isV (.int .i64 (((fl : Nat) : Int))), isV (.bool true), isV (.bool true)] (by rfl) alloc_Z ?_ ?_
                · intro qi qh qA aa wx hb hs hd
                  match qi, qh, qA with
                  | 0, _, _ => exact .inl ⟨rfl, pure_b (bool_eq HQV.out) (op_mv rfl (hs 3 rfl))⟩
                  | 1, _, _ => exact .inl ⟨rfl, op_mv rfl (hd 0 rfl)⟩
                  | 2, _, _ => exact .inl ⟨⟨rfl, .inl (hd 1 rfl)⟩, op_mv rfl (hs 5 rfl)⟩
                  | 3, _, _ => exact .inl ⟨⟨rfl, .inl (hd 1 rfl)⟩, pure_b (bool_eq (decide_eq_true (by omega))) (⟨_, op_eqlI rfl (hd 2 rfl) rfl, rfl⟩)⟩
                  | 4, _, _ => exact .inl ⟨rfl, ⟨_, op_pickT rfl (hd 1 rfl) (hd 3 rfl), rfl⟩⟩
                  | qi + 5, h, _ => omega
                · intro vs X1 hb hv hal hne
                  have HL0 := Hd.mk (HE.out.lt)
                  have HBW := HB
                  replace HB := Hd.mk (bel_then HB.out hb)
                  replace HE : Hd (Env X1 [⟨w.heap.size, 24, [.int .i64 Wd, .int .i64 Ht, .slice (some ad) xs.length k]⟩]) := ⟨HE.out.to hb⟩
                  have HLS := HL0
                  have e47 : vs 47 = .bool true := hv 4 (by decide) rfl
                  simp only [putAll, List.foldl_cons, List.foldl_nil, Act.put, List.setIfInBounds_toArray, List.set_cons_succ, List.set_cons_zero, List.drop_succ_cons, List.drop_zero, e47]
                  generalize vs 43 = s43
                  generalize vs 44 = s44
                  generalize vs 45 = s45
                  generalize vs 46 = s46
                  clear hv hal hne hb HL0 HBW HLS e47
                  go_upto_region 15 with fail
                  refine wp_region_vd 0 [] [] [] 84 [.int .i64 0, .int .i64 0] [] (by rfl) alloc_Z ?_ ?_
                  · intro qi qh qA aa wx hb hs hd
                    match qi, qh, qA with
                    | qi + 0, h, _ => omega
                  · intro vs X2 hb hv hal hne
                    have HL0 := Hd.mk (HE.out.lt)
                    have HBW := HB
                    replace HB := Hd.mk (bel_then HB.out hb)
                    replace HE : Hd (Env X2 [⟨w.heap.size, 24, [.int .i64 Wd, .int .i64 Ht, .slice (some ad) xs.length k]⟩]) := ⟨HE.out.to hb⟩
                    have HLS := HL0
                    simp only [putAll, List.foldl_cons, List.foldl_nil, Act.put, List.setIfInBounds_toArray, List.set_cons_succ, List.set_cons_zero, List.drop_succ_cons, List.drop_zero]
                    clear hv hal hne hb HL0 HBW HLS
                    go_wp2_with fail
                    go_ret
                    exact ⟨_, rfl, HB.out, by rw [HRES.out, show kindR q h fl mi (decide (0 < ce)) = 0 from by unfold kindR; simp [HQV.out, h0]]; rfl⟩
              · skip
                go_upto_region 14 with fail
                refine wp_region_vd 5 [43, 44, 45, 46, 47] [0, 1, 2, 3, 4] [] 84 [.int .i64 0, .int .i64 0] [isV (.bool true), isV (.bool true), isV (.int .i64 (((fl : Nat) : Int))), isV (.bool false), isV (.bool false)] (by rfl) alloc_Z ?_ ?_
                · intro qi qh qA aa wx hb hs hd
                  match qi, qh, qA with
                  | 0, _, _ => exact .inl ⟨rfl, pure_b (bool_eq HQV.out) (op_mv rfl (hs 3 rfl))⟩
                  | 1, _, _ => exact .inl ⟨rfl, op_mv rfl (hd 0 rfl)⟩
                  | 2, _, _ => exact .inl ⟨⟨rfl, .inl (hd 1 rfl)⟩, op_mv rfl (hs 5 rfl)⟩
                  | 3, _, _ => exact .inl ⟨⟨rfl, .inl (hd 1 rfl)⟩, pure_b (bool_eq (decide_eq_false (by omega))) (⟨_, op_eqlI rfl (hd 2 rfl) rfl, rfl⟩)⟩
                  | 4, _, _ => exact .inl ⟨rfl, ⟨_, op_pickT rfl (hd 1 rfl) (hd 3 rfl), rfl⟩⟩
                  | qi + 5, h, _ => omega
                · intro vs X1 hb hv hal hne
                  have HL0 := Hd.mk (HE.out.lt)
                  have HBW := HB
                  replace HB := Hd.mk (bel_then HB.out hb)
                  replace HE : Hd (Env X1 [⟨w.heap.size, 24, [.int .i64 Wd, .int .i64 Ht, .slice (some ad) xs.length k]⟩]) := ⟨HE.out.to hb⟩
                  have HLS := HL0
                  have e47 : vs 47 = .bool false := hv 4 (by decide) rfl
                  simp only [putAll, List.foldl_cons, List.foldl_nil, Act.put, List.setIfInBounds_toArray, List.set_cons_succ, List.set_cons_zero, List.drop_succ_cons, List.drop_zero, e47]
                  generalize vs 43 = s43
                  generalize vs 44 = s44
                  generalize vs 45 = s45
                  generalize vs 46 = s46
                  clear hv hal hne hb HL0 HBW HLS e47
                  by_cases h1 : mi = 4
                  · skip
                    go_upto_region 16 with fail
                    refine wp_region_vd 5 [49, 50, 51, 52, 53] [0, 1, 2, 3, 4] [] 84 [.int .i64 0, .int .i64 0] [isV (.bool true), isV (.bool true), isV (.int .i64 (((mi : Nat) : Int))), isV (.bool true), isV (.bool true)] (by rfl) alloc_Z ?_ ?_
                    · intro qi qh qA aa wx hb hs hd
                      match qi, qh, qA with
                      | 0, _, _ => exact .inl ⟨rfl, pure_b (bool_eq HQV.out) (op_mv rfl (hs 3 rfl))⟩
                      | 1, _, _ => exact .inl ⟨rfl, op_mv rfl (hd 0 rfl)⟩
                      | 2, _, _ => exact .inl ⟨⟨rfl, .inl (hd 1 rfl)⟩, op_mv rfl (hs 6 rfl)⟩
                      | 3, _, _ => exact .inl ⟨⟨rfl, .inl (hd 1 rfl)⟩, pure_b (bool_eq (decide_eq_true (by omega))) (⟨_, op_eqlI rfl (hd 2 rfl) rfl, rfl⟩)⟩
                      | 4, _, _ => exact .inl ⟨rfl, ⟨_, op_pickT rfl (hd 1 rfl) (hd 3 rfl), rfl⟩⟩
                      | qi + 5, h, _ => omega
                    · intro vs X2 hb hv hal hne
                      have HL0 := Hd.mk (HE.out.lt)
                      have HBW := HB
                      replace HB := Hd.mk (bel_then HB.out hb)
                      replace HE : Hd (Env X2 [⟨w.heap.size, 24, [.int .i64 Wd, .int .i64 Ht, .slice (some ad) xs.length k]⟩]) := ⟨HE.out.to hb⟩
                      have HLS := HL0
                      have e53 : vs 53 = .bool true := hv 4 (by decide) rfl
                      simp only [putAll, List.foldl_cons, List.foldl_nil, Act.put, List.setIfInBounds_toArray, List.set_cons_succ, List.set_cons_zero, List.drop_succ_cons, List.drop_zero, e53]
                      generalize vs 49 = s49
                      generalize vs 50 = s50
                      generalize vs 51 = s51
                      generalize vs 52 = s52
                      clear hv hal hne hb HL0 HBW HLS e53
                      go_upto_region 17 with fail
                      refine wp_region_vd 0 [] [] [] 84 [.int .i64 0, .int .i64 0] [] (by rfl) alloc_Z ?_ ?_
                      · intro qi qh qA aa wx hb hs hd
                        match qi, qh, qA with
                        | qi + 0, h, _ => omega
                      · intro vs X3 hb hv hal hne
                        have HL0 := Hd.mk (HE.out.lt)
                        have HBW := HB
                        replace HB := Hd.mk (bel_then HB.out hb)
                        replace HE : Hd (Env X3 [⟨w.heap.size, 24, [.int .i64 Wd, .int .i64 Ht, .slice (some ad) xs.length k]⟩]) := ⟨HE.out.to hb⟩
                        have HLS := HL0
                        simp only [putAll, List.foldl_cons, List.foldl_nil, Act.put, List.setIfInBounds_toArray, List.set_cons_succ, List.set_cons_zero, List.drop_succ_cons, List.drop_zero]
                        clear hv hal hne hb HL0 HBW HLS
                        go_wp2_with fail
                        go_ret
                        exact ⟨_, rfl, HB.out, by rw [HRES.out, show kindR q h fl mi (decide (0 < ce)) = 1 from by unfold kindR; simp [HQV.out, h0, h1]]; rfl⟩
                  · skip
                    go_upto_region 16 with fail
                    refine wp_region_vd 5 [49, 50, 51, 52, 53] [0, 1, 2, 3, 4] [] 84 [.int .i64 0, .int .i64 0] [isV (.bool true), isV (.bool true), isV (.int .i64 (((mi : Nat) : Int))), isV (.bool false), isV (.bool false)] (by rfl) alloc_Z ?_ ?_
                    · intro qi qh qA aa wx hb hs hd
                      match qi, qh, qA with
                      | 0, _, _ => exact .inl ⟨rfl, pure_b (bool_eq HQV.out) (op_mv rfl (hs 3 rfl))⟩
                      | 1, _, _ => exact .inl ⟨rfl, op_mv rfl (hd 0 rfl)⟩
                      | 2, _, _ => exact .inl ⟨⟨rfl, .inl (hd 1 rfl)⟩, op_mv rfl (hs 6 rfl)⟩
                      | 3, _, _ => exact .inl ⟨⟨rfl, .inl (hd 1 rfl)⟩, pure_b (bool_eq (decide_eq_false (by omega))) (⟨_, op_eqlI rfl (hd 2 rfl) rfl, rfl⟩)⟩
                      | 4, _, _ => exact .inl ⟨rfl, ⟨_, op_pickT rfl (hd 1 rfl) (hd 3 rfl), rfl⟩⟩
                      | qi + 5, h, _ => omega
                    · intro vs X2 hb hv hal hne
                      have HL0 := Hd.mk (HE.out.lt)
                      have HBW := HB
                      replace HB := Hd.mk (bel_then HB.out hb)
                      replace HE : Hd (Env X2 [⟨w.heap.size, 24, [.int .i64 Wd, .int .i64 Ht, .slice (some ad) xs.length k]⟩]) := ⟨HE.out.to hb⟩
                      have HLS := HL0
                      have e53 : vs 53 = .bool false := hv 4 (by decide) rfl
                      simp only [putAll, List.foldl_cons, List.foldl_nil, Act.put, List.setIfInBounds_toArray, List.set_cons_succ, List.set_cons_zero, List.drop_succ_cons, List.drop_zero, e53]
                      generalize vs 49 = s49
                      generalize vs 50 = s50
                      generalize vs 51 = s51
                      generalize vs 52 = s52
                      clear hv hal hne hb HL0 HBW HLS e53
                      go_upto_region 18 with fail
                      refine wp_region_vd 1 [55] [0] [] 84 [.int .i64 0, .int .i64 0] [isV (.bool true)] (by rfl) alloc_Z ?_ ?_
                      · intro qi qh qA aa wx hb hs hd
                        match qi, qh, qA with
                        | 0, _, _ => exact .inl ⟨rfl, pure_b (bool_eq HQV.out) (op_mv rfl (hs 3 rfl))⟩
                        | qi + 1, h, _ => omega
                      · intro vs X3 hb hv hal hne
                        have HL0 := Hd.mk (HE.out.lt)
                        have HBW := HB
                        replace HB := Hd.mk (bel_then HB.out hb)
                        replace HE : Hd (Env X3 [⟨w.heap.size, 24, [.int .i64 Wd, .int .i64 Ht, .slice (some ad) xs.length k]⟩]) := ⟨HE.out.to hb⟩
                        have HLS := HL0
                        have e55 : vs 55 = .bool true := hv 0 (by decide) rfl
                        simp only [putAll, List.foldl_cons, List.foldl_nil, Act.put, List.setIfInBounds_toArray, List.set_cons_succ, List.set_cons_zero, List.drop_succ_cons, List.drop_zero, e55]
                        clear hv hal hne hb HL0 HBW HLS e55
                        go_upto_region 19 with fail
                        refine wp_region_vd 0 [] [] [] 84 [.int .i64 0, .int .i64 0] [] (by rfl) alloc_Z ?_ ?_
                        · intro qi qh qA aa wx hb hs hd
                          match qi, qh, qA with
                          | qi + 0, h, _ => omega
                        · intro vs X4 hb hv hal hne
                          have HL0 := Hd.mk (HE.out.lt)
                          have HBW := HB
                          replace HB := Hd.mk (bel_then HB.out hb)
                          replace HE : Hd (Env X4 [⟨w.heap.size, 24, [.int .i64 Wd, .int .i64 Ht, .slice (some ad) xs.length k]⟩]) := ⟨HE.out.to hb⟩
                          have HLS := HL0
                          simp only [putAll, List.foldl_cons, List.foldl_nil, Act.put, List.setIfInBounds_toArray, List.set_cons_succ, List.set_cons_zero, List.drop_succ_cons, List.drop_zero]
                          clear hv hal hne hb HL0 HBW HLS
                          go_wp2_with fail
                          go_ret
                          exact ⟨_, rfl, HB.out, by rw [HRES.out, show kindR q h fl mi (decide (0 < ce)) = 2 from by unfold kindR; simp [HQV.out, h0, h1]]; rfl⟩
            · have HQV := Hd.mk hq0
              clear hq0
              go_upto_region 14 with fail
              refine wp_region_vd 5 [43, 44, 45, 46, 47] [0, 1, 4] [] 84 [.int .i64 0, .int .i64 0] [isV (.bool false), isV (.bool false), isV undef, isV undef, isV (.bool false)] (by rfl) alloc_Z ?_ ?_
              · intro qi qh qA aa wx hb hs hd
                match qi, qh, qA with
                | 0, _, _ => exact .inl ⟨rfl, pure_b (bool_eq HQV.out) (op_mv rfl (hs 3 rfl))⟩
                | 1, _, _ => exact .inl ⟨rfl, op_mv rfl (hd 0 rfl)⟩
                | 2, _, _ => exact .inr ⟨⟨rfl, .inl (hd 1 rfl)⟩, rfl⟩
                | 3, _, _ => exact .inr ⟨⟨rfl, .inl (hd 1 rfl)⟩, rfl⟩
                | 4, _, _ => exact .inl ⟨rfl, ⟨_, op_pickF rfl (hd 1 rfl) rfl, rfl⟩⟩
                | qi + 5, h, _ => omega
              · intro vs X1 hb hv hal hne
                have HL0 := Hd.mk (HE.out.lt)
                have HBW := HB
                replace HB := Hd.mk (bel_then HB.out hb)
                replace HE : Hd (Env X1 [⟨w.heap.size, 24, [.int .i64 Wd, .int .i64 Ht, .slice (some ad) xs.length k]⟩]) := ⟨HE.out.to hb⟩
                have HLS := HL0
                have e47 : vs 47 = .bool false := hv 4 (by decide) rfl
                simp only [putAll, List.foldl_cons, List.foldl_nil, Act.put, List.setIfInBounds_toArray, List.set_cons_succ, List.set_cons_zero, List.drop_succ_cons, List.drop_zero, e47]
                generalize vs 43 = s43
                generalize vs 44 = s44
                generalize vs 45 = s45
                generalize vs 46 = s46
                clear hv hal hne hb HL0 HBW HLS e47
                go_upto_region 16 with fail
                refine wp_region_vd 5 [49, 50, 51, 52, 53] [0, 1, 4] [] 84 [.int .i64 0, .int .i64 0] [isV (.bool false), isV (.bool false), isV undef, isV undef, isV (.bool false)] (by rfl) alloc_Z ?_ ?_
                · intro qi qh qA aa wx hb hs hd
                  match qi, qh, qA with
                  | 0, _, _ => exact .inl ⟨rfl, pure_b (bool_eq HQV.out) (op_mv rfl (hs 3 rfl))⟩
                  | 1, _, _ => exact .inl ⟨rfl, op_mv rfl (hd 0 rfl)⟩
                  | 2, _, _ => exact .inr ⟨⟨rfl, .inl (hd 1 rfl)⟩, rfl⟩
                  | 3, _, _ => exact .inr ⟨⟨rfl, .inl (hd 1 rfl)⟩, rfl⟩
                  | 4, _, _ => exact .inl ⟨rfl, ⟨_, op_pickF rfl (hd 1 rfl) rfl, rfl⟩⟩
                  | qi + 5, h, _ => omega
                · intro vs X2 hb hv hal hne
                  have HL0 := Hd.mk (HE.out.lt)
                  have HBW := HB
                  replace HB := Hd.mk (bel_then HB.out hb)
                  replace HE : Hd (Env X2 [⟨w.heap.size, 24, [.int .i64 Wd, .int .i64 Ht, .slice (some ad) xs.length k]⟩]) := ⟨HE.out.to hb⟩
                  have HLS := HL0
                  have e53 : vs 53 = .bool false := hv 4 (by decide) rfl
                  simp only [putAll, List.foldl_cons, List.foldl_nil, Act.put, List.setIfInBounds_toArray, List.set_cons_succ, List.set_cons_zero, List.drop_succ_cons, List.drop_zero, e53]
                  generalize vs 49 = s49
                  generalize vs 50 = s50
                  generalize vs 51 = s51
                  generalize vs 52 = s52
                  clear hv hal hne hb HL0 HBW HLS e53
                  go_upto_region 18 with fail
                  refine wp_region_vd 1 [55] [0] [] 84 [.int .i64 0, .int .i64 0] [isV (.bool false)] (by rfl) alloc_Z ?_ ?_
                  · intro qi qh qA aa wx hb hs hd
                    match qi, qh, qA with
                    | 0, _, _ => exact .inl ⟨rfl, pure_b (bool_eq HQV.out) (op_mv rfl (hs 3 rfl))⟩
                    | qi + 1, h, _ => omega
                  · intro vs X3 hb hv hal hne
                    have HL0 := Hd.mk (HE.out.lt)
                    have HBW := HB
                    replace HB := Hd.mk (bel_then HB.out hb)
                    replace HE : Hd (Env X3 [⟨w.heap.size, 24, [.int .i64 Wd, .int .i64 Ht, .slice (some ad) xs.length k]⟩]) := ⟨HE.out.to hb⟩
                    have HLS := HL0
                    have e55 : vs 55 = .bool false := hv 0 (by decide) rfl
                    simp only [putAll, List.foldl_cons, List.foldl_nil, Act.put, List.setIfInBounds_toArray, List.set_cons_succ, List.set_cons_zero, List.drop_succ_cons, List.drop_zero, e55]
                    clear hv hal hne hb HL0 HBW HLS e55
                    rcases (show h = true ∨ h = false by cases h <;> simp) with hh0 | hh0
                    · have HHV := Hd.mk hh0
                      clear hh0
                      by_cases h0 : fl = 0
                      · skip
                        go_upto_region 20 with fail
                        refine wp_region_vd 5 [57, 58, 59, 60, 61] [0, 1, 2, 3, 4] [] 84 [.int .i64 0, .int .i64 0] [isV (.bool true), isV (.bool true), isV (.int .i64 (((fl : Nat) : Int))), isV (.bool true), isV (.bool true)] (by rfl) alloc_Z ?_ ?_
                        · intro qi qh qA aa wx hb hs hd
                          match qi, qh, qA with
                          | 0, _, _ => exact .inl ⟨rfl, pure_b (bool_eq HHV.out) (op_mv rfl (hs 4 rfl))⟩
                          | 1, _, _ => exact .inl ⟨rfl, op_mv rfl (hd 0 rfl)⟩
                          | 2, _, _ => exact .inl ⟨⟨rfl, .inl (hd 1 rfl)⟩, op_mv rfl (hs 5 rfl)⟩
                          | 3, _, _ => exact .inl ⟨⟨rfl, .inl (hd 1 rfl)⟩, pure_b (bool_eq (decide_eq_true (by omega))) (⟨_, op_eqlI rfl (hd 2 rfl) rfl, rfl⟩)⟩
                          | 4, _, _ => exact .inl ⟨rfl, ⟨_, op_pickT rfl (hd 1 rfl) (hd 3 rfl), rfl⟩⟩
                          | qi + 5, h, _ => omega
                        · intro vs X4 hb hv hal hne
                          have HL0 := Hd.mk (HE.out.lt)
                          have HBW := HB
                          replace HB := Hd.mk (bel_then HB.out hb)
                          replace HE : Hd (Env X4 [⟨w.heap.size, 24, [.int .i64 Wd, .int .i64 Ht, .slice (some ad) xs.length k]⟩]) := ⟨HE.out.to hb⟩
                          have HLS := HL0
                          have e61 : vs 61 = .bool true := hv 4 (by decide) rfl
                          simp only [putAll, List.foldl_cons, List.foldl_nil, Act.put, List.setIfInBounds_toArray, List.set_cons_succ, List.set_cons_zero, List.drop_succ_cons, List.drop_zero, e61]
                          generalize vs 57 = s57
                          generalize vs 58 = s58
                          generalize vs 59 = s59
                          generalize vs 60 = s60
                          clear hv hal hne hb HL0 HBW HLS e61
                          go_upto_region 21 with fail
                          refine wp_region_vd 0 [] [] [] 84 [.int .i64 0, .int .i64 0] [] (by rfl) alloc_Z ?_ ?_
                          · intro qi qh qA aa wx hb hs hd
                            match qi, qh, qA with
                            | qi + 0, h, _ => omega
                          · intro vs X5 hb hv hal hne
                            have HL0 := Hd.mk (HE.out.lt)
                            have HBW := HB
                            replace HB := Hd.mk (bel_then HB.out hb)
                            replace HE : Hd (Env X5 [⟨w.heap.size, 24, [.int .i64 Wd, .int .i64 Ht, .slice (some ad) xs.length k]⟩]) := ⟨HE.out.to hb⟩
                            have HLS := HL0
                            simp only [putAll, List.foldl_cons, List.foldl_nil, Act.put, List.setIfInBounds_toArray, List.set_cons_succ, List.set_cons_zero, List.drop_succ_cons, List.drop_zero]
                            clear hv hal hne hb HL0 HBW HLS
                            go_wp2_with fail
                            go_ret
                            exact ⟨_, rfl, HB.out, by rw [HRES.out, show kindR q h fl mi (decide (0 < ce)) = 3 from by unfold kindR; simp [HQV.out, HHV.out, h0]]; rfl⟩
                      · skip
                        go_upto_region 20 with fail
                        refine wp_region_vd 5 [57, 58, 59, 60, 61] [0, 1, 2, 3, 4] [] 84 [.int .i64 0, .int .i64 0] [isV (.bool true), isV (.bool true), isV (.int .i64 (((fl : Nat) : Int))), isV (.bool false), isV (.bool false)] (by rfl) alloc_Z ?_ ?_
                        · intro qi qh qA aa wx hb hs hd
                          match qi, qh, qA with
                          | 0, _, _ => exact .inl ⟨rfl, pure_b (bool_eq HHV.out) (op_mv rfl (hs 4 rfl))⟩
                          | 1, _, _ => exact .inl ⟨rfl, op_mv rfl (hd 0 rfl)⟩
                          | 2, _, _ => exact .inl ⟨⟨rfl, .inl (hd 1 rfl)⟩, op_mv rfl (hs 5 rfl)⟩
                          | 3, _, _ => exact .inl ⟨⟨rfl, .inl (hd 1 rfl)⟩, pure_b (bool_eq (decide_eq_false (by omega))) (⟨_, op_eqlI rfl (hd 2 rfl) rfl, rfl⟩)⟩
                          | 4, _, _ => exact .inl ⟨rfl, ⟨_, op_pickT rfl (hd 1 rfl) (hd 3 rfl), rfl⟩⟩
                          | qi + 5, h, _ => omega
                        · intro vs X4 hb hv hal hne
                          have HL0 := Hd.mk (HE.out.lt)
                          have HBW := HB
                          replace HB := Hd.mk (bel_then HB.out hb)
                          replace HE : Hd (Env X4 [⟨w.heap.size, 24, [.int .i64 Wd, .int .i64 Ht, .slice (some ad) xs.length k]⟩]) := ⟨HE.out.to hb⟩
                          have HLS := HL0
                          have e61 : vs 61 = .bool false := hv 4 (by decide) rfl
                          simp only [putAll, List.foldl_cons, List.foldl_nil, Act.put, List.setIfInBounds_toArray, List.set_cons_succ, List.set_cons_zero, List.drop_succ_cons, List.drop_zero, e61]
                          generalize vs 57 = s57
                          generalize vs 58 = s58
                          generalize vs 59 = s59
                          generalize vs 60 = s60
                          clear hv hal hne hb HL0 HBW HLS e61
                          by_cases h1 : mi = 0
                          · skip
                            go_upto_region 22 with fail
                            refine wp_region_vd 5 [63, 64, 65, 66, 67] [0, 1, 2, 3, 4] [] 84 [.int .i64 0, .int .i64 0] [isV (.bool true), isV (.bool true), isV (.int .i64 (((mi : Nat) : Int))), isV (.bool true), isV (.bool true)] (by rfl) alloc_Z ?_ ?_
                            · intro qi qh qA aa wx hb hs hd
                              match qi, qh, qA with
                              | 0, _, _ => exact .inl ⟨rfl, pure_b (bool_eq HHV.out) (op_mv rfl (hs 4 rfl))⟩
                              | 1, _, _ => exact .inl ⟨rfl, op_mv rfl (hd 0 rfl)⟩
                              | 2, _, _ => exact .inl ⟨⟨rfl, .inl (hd 1 rfl)⟩, op_mv rfl (hs 6 rfl)⟩
                              | 3, _, _ => exact .inl ⟨⟨rfl, .inl (hd 1 rfl)⟩, pure_b (bool_eq (decide_eq_true (by omega))) (⟨_, op_eqlI rfl (hd 2 rfl) rfl, rfl⟩)⟩
                              | 4, _, _ => exact .inl ⟨rfl, ⟨_, op_pickT rfl (hd 1 rfl) (hd 3 rfl), rfl⟩⟩
                              | qi + 5, h, _ => omega
                            · intro vs X5 hb hv hal hne
                              have HL0 := Hd.mk (HE.out.lt)
                              have HBW := HB
                              replace HB := Hd.mk (bel_then HB.out hb)
                              replace HE : Hd (Env X5 [⟨w.heap.size, 24, [.int .i64 Wd, .int .i64 Ht, .slice (some ad) xs.length k]⟩]) := ⟨HE.out.to hb⟩
                              have HLS := HL0
                              have e67 : vs 67 = .bool true := hv 4 (by decide) rfl
                              simp only [putAll, List.foldl_cons, List.foldl_nil, Act.put, List.setIfInBounds_toArray, List.set_cons_succ, List.set_cons_zero, List.drop_succ_cons, List.drop_zero, e67]
                              generalize vs 63 = s63
                              generalize vs 64 = s64
                              generalize vs 65 = s65
                              generalize vs 66 = s66
                              clear hv hal hne hb HL0 HBW HLS e67
                              go_upto_region 23 with fail
                              refine wp_region_vd 0 [] [] [] 84 [.int .i64 0, .int .i64 0] [] (by rfl) alloc_Z ?_ ?_
                              · intro qi qh qA aa wx hb hs hd
                                match qi, qh, qA with
                                | qi + 0, h, _ => omega
                              · intro vs X6 hb hv hal hne
                                have HL0 := Hd.mk (HE.out.lt)
                                have HBW := HB
                                replace HB := Hd.mk (bel_then HB.out hb)
                                replace HE : Hd (Env X6 [⟨w.heap.size, 24, [.int .i64 Wd, .int .i64 Ht, .slice (some ad) xs.length k]⟩]) := ⟨HE.out.to hb⟩
                                have HLS := HL0
                                simp only [putAll, List.foldl_cons, List.foldl_nil, Act.put, List.setIfInBounds_toArray, List.set_cons_succ, List.set_cons_zero, List.drop_succ_cons, List.drop_zero]
                                clear hv hal hne hb HL0 HBW HLS
                                go_wp2_with fail
                                go_ret
                                exact ⟨_, rfl, HB.out, by rw [HRES.out, show kindR q h fl mi (decide (0 < ce)) = 5 from by unfold kindR; simp [HQV.out, HHV.out, h0, h1]]; rfl⟩
                          · skip
                            go_upto_region 22 with fail
                            refine wp_region_vd 5 [63, 64, 65, 66, 67] [0, 1, 2, 3, 4] [] 84 [.int .i64 0, .int .i64 0] [isV (.bool true), isV (.bool true), isV (.int .i64 (((mi : Nat) : Int))), isV (.bool false), isV (.bool false)] (by rfl) alloc_Z ?_ ?_
                            · intro qi qh qA aa wx hb hs hd
                              match qi, qh, qA with
                              | 0, _, _ => exact .inl ⟨rfl, pure_b (bool_eq HHV.out) (op_mv rfl (hs 4 rfl))⟩
                              | 1, _, _ => exact .inl ⟨rfl, op_mv rfl (hd 0 rfl)⟩
                              | 2, _, _ => exact .inl ⟨⟨rfl, .inl (hd 1 rfl)⟩, op_mv rfl (hs 6 rfl)⟩
                              | 3, _, _ => exact .inl ⟨⟨rfl, .inl (hd 1 rfl)⟩, pure_b (bool_eq (decide_eq_false (by omega))) (⟨_, op_eqlI rfl (hd 2 rfl) rfl, rfl⟩)⟩
                              | 4, _, _ => exact .inl ⟨rfl, ⟨_, op_pickT rfl (hd 1 rfl) (hd 3 rfl), rfl⟩⟩
                              | qi + 5, h, _ => omega
                            · intro vs X5 hb hv hal hne
                              have HL0 := Hd.mk (HE.out.lt)
                              have HBW := HB
                              replace HB := Hd.mk (bel_then HB.out hb)
                              replace HE : Hd (Env X5 [⟨w.heap.size, 24, [.int .i64 Wd, .int .i64 Ht, .slice (some ad) xs.length k]⟩]) := ⟨HE.out.to hb⟩
                              have HLS := HL0
                              have e67 : vs 67 = .bool false := hv 4 (by decide) rfl
                              simp only [putAll, List.foldl_cons, List.foldl_nil, Act.put, List.setIfInBounds_toArray, List.set_cons_succ, List.set_cons_zero, List.drop_succ_cons, List.drop_zero, e67]
                              generalize vs 63 = s63
                              generalize vs 64 = s64
                              generalize vs 65 = s65
                              generalize vs 66 = s66
                              clear hv hal hne hb HL0 HBW HLS e67
                              by_cases h2 : mi = 1
                              · skip
                                go_upto_region 24 with fail
                                refine wp_region_vd 5 [69, 70, 71, 72, 73] [0, 1, 2, 3, 4] [] 84 [.int .i64 0, .int .i64 0] [isV (.bool true), isV (.bool true), isV (.int .i64 (((mi : Nat) : Int))), isV (.bool true), isV (.bool true)] (by rfl) alloc_Z ?_ ?_
                                · intro qi qh qA aa wx hb hs hd
                                  match qi, qh, qA with
                                  | 0, _, _ => exact .inl ⟨rfl, pure_b (bool_eq HHV.out) (op_mv rfl (hs 4 rfl))⟩
                                  | 1, _, _ => exact .inl ⟨rfl, op_mv rfl (hd 0 rfl)⟩
                                  | 2, _, _ => exact .inl ⟨⟨rfl, .inl (hd 1 rfl)⟩, op_mv rfl (hs 6 rfl)⟩
                                  | 3, _, _ => exact .inl ⟨⟨rfl, .inl (hd 1 rfl)⟩, pure_b (bool_eq (decide_eq_true (by omega))) (⟨_, op_eqlI rfl (hd 2 rfl) rfl, rfl⟩)⟩
                                  | 4, _, _ => exact .inl ⟨rfl, ⟨_, op_pickT rfl (hd 1 rfl) (hd 3 rfl), rfl⟩⟩
                                  | qi + 5, h, _ => omega
                                · intro vs X6 hb hv hal hne
                                  have HL0 := Hd.mk (HE.out.lt)
                                  have HBW := HB
                                  replace HB := Hd.mk (bel_then HB.out hb)
                                  replace HE : Hd (Env X6 [⟨w.heap.size, 24, [.int .i64 Wd, .int .i64 Ht, .slice (some ad) xs.length k]⟩]) := ⟨HE.out.to hb⟩
                                  have HLS := HL0
                                  have e73 : vs 73 = .bool true := hv 4 (by decide) rfl
                                  simp only [putAll, List.foldl_cons, List.foldl_nil, Act.put, List.setIfInBounds_toArray, List.set_cons_succ, List.set_cons_zero, List.drop_succ_cons, List.drop_zero, e73]
                                  generalize vs 69 = s69
                                  generalize vs 70 = s70
                                  generalize vs 71 = s71
                                  generalize vs 72 = s72
                                  clear hv hal hne hb HL0 HBW HLS e73
                                  go_upto_region 25 with fail
                                  refine wp_region_vd 0 [] [] [] 84 [.int .i64 0, .int .i64 0] [] (by rfl) alloc_Z ?_ ?_
                                  · intro qi qh qA aa wx hb hs hd
                                    match qi, qh, qA with
                                    | qi + 0, h, _ => omega
                                  · intro vs X7 hb hv hal hne
                                    have HL0 := Hd.mk (HE.out.lt)
                                    have HBW := HB
                                    replace HB := Hd.mk (bel_then HB.out hb)
                                    replace HE : Hd (Env X7 [⟨w.heap.size, 24, [.int .i64 Wd, .int .i64 Ht, .slice (some ad) xs.length k]⟩]) := ⟨HE.out.to hb⟩
                                    have HLS := HL0
                                    simp only [putAll, List.foldl_cons, List.foldl_nil, Act.put, List.setIfInBounds_toArray, List.set_cons_succ, List.set_cons_zero, List.drop_succ_cons, List.drop_zero]
                                    clear hv hal hne hb HL0 HBW HLS
                                    go_wp2_with fail
                                    go_ret
                                    exact ⟨_, rfl, HB.out, by rw [HRES.out, show kindR q h fl mi (decide (0 < ce)) = 6 from by unfold kindR; simp [HQV.out, HHV.out, h0, h1, h2]]; rfl⟩
                              · skip
                                go_upto_region 24 with fail
                                refine wp_region_vd 5 [69, 70, 71, 72, 73] [0, 1, 2, 3, 4] [] 84 [.int .i64 0, .int .i64 0] [isV (.bool true), isV (.bool true), isV (.int .i64 (((mi : Nat) : Int))), isV (.bool false), isV (.bool false)] (by rfl) alloc_Z ?_ ?_
                                · intro qi qh qA aa wx hb hs hd
                                  match qi, qh, qA with
                                  | 0, _, _ => exact .inl ⟨rfl, pure_b (bool_eq HHV.out) (op_mv rfl (hs 4 rfl))⟩
                                  | 1, _, _ => exact .inl ⟨rfl, op_mv rfl (hd 0 rfl)⟩
                                  | 2, _, _ => exact .inl ⟨⟨rfl, .inl (hd 1 rfl)⟩, op_mv rfl (hs 6 rfl)⟩
                                  | 3, _, _ => exact .inl ⟨⟨rfl, .inl (hd 1 rfl)⟩, pure_b (bool_eq (decide_eq_false (by omega))) (⟨_, op_eqlI rfl (hd 2 rfl) rfl, rfl⟩)⟩
                                  | 4, _, _ => exact .inl ⟨rfl, ⟨_, op_pickT rfl (hd 1 rfl) (hd 3 rfl), rfl⟩⟩
                                  | qi + 5, h, _ => omega
                                · intro vs X6 hb hv hal hne
                                  have HL0 := Hd.mk (HE.out.lt)
                                  have HBW := HB
                                  replace HB := Hd.mk (bel_then HB.out hb)
                                  replace HE : Hd (Env X6 [⟨w.heap.size, 24, [.int .i64 Wd, .int .i64 Ht, .slice (some ad) xs.length k]⟩]) := ⟨HE.out.to hb⟩
                                  have HLS := HL0
                                  have e73 : vs 73 = .bool false := hv 4 (by decide) rfl
                                  simp only [putAll, List.foldl_cons, List.foldl_nil, Act.put, List.setIfInBounds_toArray, List.set_cons_succ, List.set_cons_zero, List.drop_succ_cons, List.drop_zero, e73]
                                  generalize vs 69 = s69
                                  generalize vs 70 = s70
                                  generalize vs 71 = s71
                                  generalize vs 72 = s72
                                  clear hv hal hne hb HL0 HBW HLS e73
                                  by_cases h3 : 0 < ce
                                  · skip
                                    go_upto_region 26 with fail
                                    refine wp_region_vd 5 [75, 76, 77, 78, 79] [0, 1, 2, 3, 4] [] 84 [.int .i64 0, .int .i64 0] [isV (.bool true), isV (.bool true), isV (.int .i64 (((ce : Nat) : Int))), isV (.bool true), isV (.bool true)] (by rfl) alloc_Z ?_ ?_
                                    · intro qi qh qA aa wx hb hs hd
                                      match qi, qh, qA with
                                      | 0, _, _ => exact .inl ⟨rfl, pure_b (bool_eq HHV.out) (op_mv rfl (hs 4 rfl))⟩
                                      | 1, _, _ => exact .inl ⟨rfl, op_mv rfl (hd 0 rfl)⟩
                                      | 2, _, _ => exact .inl ⟨⟨rfl, .inl (hd 1 rfl)⟩, op_mv rfl (hs 7 rfl)⟩
                                      | 3, _, _ => exact .inl ⟨⟨rfl, .inl (hd 1 rfl)⟩, pure_b (bool_eq (decide_eq_true (by omega))) (⟨_, op_gtrI rfl (hd 2 rfl) rfl, rfl⟩)⟩
                                      | 4, _, _ => exact .inl ⟨rfl, ⟨_, op_pickT rfl (hd 1 rfl) (hd 3 rfl), rfl⟩⟩
                                      | qi + 5, h, _ => omega
                                    · intro vs X7 hb hv hal hne
                                      have HL0 := Hd.mk (HE.out.lt)
                                      have HBW := HB
                                      replace HB := Hd.mk (bel_then HB.out hb)
                                      replace HE : Hd (Env X7 [⟨w.heap.size, 24, [.int .i64 Wd, .int .i64 Ht, .slice (some ad) xs.length k]⟩]) := ⟨HE.out.to hb⟩
                                      have HLS := HL0
                                      have e79 : vs 79 = .bool true := hv 4 (by decide) rfl
                                      simp only [putAll, List.foldl_cons, List.foldl_nil, Act.put, List.setIfInBounds_toArray, List.set_cons_succ, List.set_cons_zero, List.drop_succ_cons, List.drop_zero, e79]
                                      generalize vs 75 = s75
                                      generalize vs 76 = s76
                                      generalize vs 77 = s77
                                      generalize vs 78 = s78
                                      clear hv hal hne hb HL0 HBW HLS e79
                                      go_upto_region 27 with fail
                                      refine wp_region_vd 0 [] [] [] 84 [.int .i64 0, .int .i64 0] [] (by rfl) alloc_Z ?_ ?_
                                      · intro qi qh qA aa wx hb hs hd
                                        match qi, qh, qA with
                                        | qi + 0, h, _ => omega
                                      · intro vs X8 hb hv hal hne
                                        have HL0 := Hd.mk (HE.out.lt)
                                        have HBW := HB
                                        replace HB := Hd.mk (bel_then HB.out hb)
                                        replace HE : Hd (Env X8 [⟨w.heap.size, 24, [.int .i64 Wd, .int .i64 Ht, .slice (some ad) xs.length k]⟩]) := ⟨HE.out.to hb⟩
                                        have HLS := HL0
                                        simp only [putAll, List.foldl_cons, List.foldl_nil, Act.put, List.setIfInBounds_toArray, List.set_cons_succ, List.set_cons_zero, List.drop_succ_cons, List.drop_zero]
                                        clear hv hal hne hb HL0 HBW HLS
                                        go_wp2_with fail
                                        go_ret
                                        exact ⟨_, rfl, HB.out, by rw [HRES.out, show kindR q h fl mi (decide (0 < ce)) = 4 from by unfold kindR; simp [HQV.out, HHV.out, h0, h1, h2, h3]]; rfl⟩
                                  · skip
                                    go_upto_region 26 with fail
                                    refine wp_region_vd 5 [75, 76, 77, 78, 79] [0, 1, 2, 3, 4] [] 84 [.int .i64 0, .int .i64 0] [isV (.bool true), isV (.bool true), isV (.int .i64 (((ce : Nat) : Int))), isV (.bool false), isV (.bool false)] (by rfl) alloc_Z ?_ ?_
                                    · intro qi qh qA aa wx hb hs hd
                                      match qi, qh, qA with
                                      | 0, _, _ => exact .inl ⟨rfl, pure_b (bool_eq HHV.out) (op_mv rfl (hs 4 rfl))⟩
                                      | 1, _, _ => exact .inl ⟨rfl, op_mv rfl (hd 0 rfl)⟩
                                      | 2, _, _ => exact .inl ⟨⟨rfl, .inl (hd 1 rfl)⟩, op_mv rfl (hs 7 rfl)⟩
                                      | 3, _, _ => exact .inl ⟨⟨rfl, .inl (hd 1 rfl)⟩, pure_b (bool_eq (decide_eq_false (by omega))) (⟨_, op_gtrI rfl (hd 2 rfl) rfl, rfl⟩)⟩
                                      | 4, _, _ => exact .inl ⟨rfl, ⟨_, op_pickT rfl (hd 1 rfl) (hd 3 rfl), rfl⟩⟩
                                      | qi + 5, h, _ => omega
                                    · intro vs X7 hb hv hal hne
                                      have HL0 := Hd.mk (HE.out.lt)
                                      have HBW := HB
                                      replace HB := Hd.mk (bel_then HB.out hb)
                                      replace HE : Hd (Env X7 [⟨w.heap.size, 24, [.int .i64 Wd, .int .i64 Ht, .slice (some ad) xs.length k]⟩]) := ⟨HE.out.to hb⟩
                                      have HLS := HL0
                                      have e79 : vs 79 = .bool false := hv 4 (by decide) rfl
                                      simp only [putAll, List.foldl_cons, List.foldl_nil, Act.put, List.setIfInBounds_toArray, List.set_cons_succ, List.set_cons_zero, List.drop_succ_cons, List.drop_zero, e79]
                                      generalize vs 75 = s75
                                      generalize vs 76 = s76
                                      generalize vs 77 = s77
                                      generalize vs 78 = s78
                                      clear hv hal hne hb HL0 HBW HLS e79
                                      go_upto_region 28 with fail
                                      refine wp_region_vd 1 [81] [0] [] 84 [.int .i64 0, .int .i64 0] [isV (.bool true)] (by rfl) alloc_Z ?_ ?_
                                      · intro qi qh qA aa wx hb hs hd
                                        match qi, qh, qA with
                                        | 0, _, _ => exact .inl ⟨rfl, pure_b (bool_eq HHV.out) (op_mv rfl (hs 4 rfl))⟩
                                        | qi + 1, h, _ => omega
                                      · intro vs X8 hb hv hal hne
                                        have HL0 := Hd.mk (HE.out.lt)
                                        have HBW := HB
                                        replace HB := Hd.mk (bel_then HB.out hb)
                                        replace HE : Hd (Env X8 [⟨w.heap.size, 24, [.int .i64 Wd, .int .i64 Ht, .slice (some ad) xs.length k]⟩]) := ⟨HE.out.to hb⟩
                                        have HLS := HL0
                                        have e81 : vs 81 = .bool true := hv 0 (by decide) rfl
                                        simp only [putAll, List.foldl_cons, List.foldl_nil, Act.put, List.setIfInBounds_toArray, List.set_cons_succ, List.set_cons_zero, List.drop_succ_cons, List.drop_zero, e81]
                                        clear hv hal hne hb HL0 HBW HLS e81
                                        go_upto_region 29 with fail
                                        refine wp_region_vd 0 [] [] [] 84 [.int .i64 0, .int .i64 0] [] (by rfl) alloc_Z ?_ ?_
                                        · intro qi qh qA aa wx hb hs hd
                                          match qi, qh, qA with
                                          | qi + 0, h, _ => omega
                                        · intro vs X9 hb hv hal hne
                                          have HL0 := Hd.mk (HE.out.lt)
                                          have HBW := HB
                                          replace HB := Hd.mk (bel_then HB.out hb)
                                          replace HE : Hd (Env X9 [⟨w.heap.size, 24, [.int .i64 Wd, .int .i64 Ht, .slice (some ad) xs.length k]⟩]) := ⟨HE.out.to hb⟩
                                          have HLS := HL0
                                          simp only [putAll, List.foldl_cons, List.foldl_nil, Act.put, List.setIfInBounds_toArray, List.set_cons_succ, List.set_cons_zero, List.drop_succ_cons, List.drop_zero]
                                          clear hv hal hne hb HL0 HBW HLS
                                          go_wp2_with fail
                                          go_ret
                                          exact ⟨_, rfl, HB.out, by rw [HRES.out, show kindR q h fl mi (decide (0 < ce)) = 7 from by unfold kindR; simp [HQV.out, HHV.out, h0, h1, h2, h3]]; rfl⟩
                    · have HHV := Hd.mk hh0
                      clear hh0
                      go_upto_region 20 with fail
                      refine wp_region_vd 5 [57, 58, 59, 60, 61] [0, 1, 4] [] 84 [.int .i64 0, .int .i64 0] [isV (.bool false), isV (.bool false), isV undef, isV undef, isV (.bool false)] (by rfl) alloc_Z ?_ ?_
                      · intro qi qh qA aa wx hb hs hd
                        match qi, qh, qA with
                        | 0, _, _ => exact .inl ⟨rfl, pure_b (bool_eq HHV.out) (op_mv rfl (hs 4 rfl))⟩
                        | 1, _, _ => exact .inl ⟨rfl, op_mv rfl (hd 0 rfl)⟩
                        | 2, _, _ => exact .inr ⟨⟨rfl, .inl (hd 1 rfl)⟩, rfl⟩
                        | 3, _, _ => exact .inr ⟨⟨rfl, .inl (hd 1 rfl)⟩, rfl⟩
                        | 4, _, _ => exact .inl ⟨rfl, ⟨_, op_pickF rfl (hd 1 rfl) rfl, rfl⟩⟩
                        | qi + 5, h, _ => omega
                      · intro vs X4 hb hv hal hne
                        have HL0 := Hd.mk (HE.out.lt)
                        have HBW := HB
                        replace HB := Hd.mk (bel_then HB.out hb)
                        replace HE : Hd (Env X4 [⟨w.heap.size, 24, [.int .i64 Wd, .int .i64 Ht, .slice (some ad) xs.length k]⟩]) := ⟨HE.out.to hb⟩
                        have HLS := HL0
                        have e61 : vs 61 = .bool false := hv 4 (by decide) rfl
                        simp only [putAll, List.foldl_cons, List.foldl_nil, Act.put, List.setIfInBounds_toArray, List.set_cons_succ, List.set_cons_zero, List.drop_succ_cons, List.drop_zero, e61]
                        generalize vs 57 = s57
                        generalize vs 58 = s58
                        generalize vs 59 = s59
                        generalize vs 60 = s60
                        clear hv hal hne hb HL0 HBW HLS e61
                        go_upto_region 22 with fail
                        refine wp_region_vd 5 [63, 64, 65, 66, 67] [0, 1, 4] [] 84 [.int .i64 0, .int .i64 0] [isV (.bool false), isV (.bool false), isV undef, isV undef, isV (.bool false)] (by rfl) alloc_Z ?_ ?_
                        · intro qi qh qA aa wx hb hs hd
                          match qi, qh, qA with
                          | 0, _, _ => exact .inl ⟨rfl, pure_b (bool_eq HHV.out) (op_mv rfl (hs 4 rfl))⟩
                          | 1, _, _ => exact .inl ⟨rfl, op_mv rfl (hd 0 rfl)⟩
                          | 2, _, _ => exact .inr ⟨⟨rfl, .inl (hd 1 rfl)⟩, rfl⟩
                          | 3, _, _ => exact .inr ⟨⟨rfl, .inl (hd 1 rfl)⟩, rfl⟩
                          | 4, _, _ => exact .inl ⟨rfl, ⟨_, op_pickF rfl (hd 1 rfl) rfl, rfl⟩⟩
                          | qi + 5, h, _ => omega
                        · intro vs X5 hb hv hal hne
                          have HL0 := Hd.mk (HE.out.lt)
                          have HBW := HB
                          replace HB := Hd.mk (bel_then HB.out hb)
                          replace HE : Hd (Env X5 [⟨w.heap.size, 24, [.int .i64 Wd, .int .i64 Ht, .slice (some ad) xs.length k]⟩]) := ⟨HE.out.to hb⟩
                          have HLS := HL0
                          have e67 : vs 67 = .bool false := hv 4 (by decide) rfl
                          simp only [putAll, List.foldl_cons, List.foldl_nil, Act.put, List.setIfInBounds_toArray, List.set_cons_succ, List.set_cons_zero, List.drop_succ_cons, List.drop_zero, e67]
                          generalize vs 63 = s63
                          generalize vs 64 = s64
                          generalize vs 65 = s65
                          generalize vs 66 = s66
                          clear hv hal hne hb HL0 HBW HLS e67
                          go_upto_region 24 with fail
                          refine wp_region_vd 5 [69, 70, 71, 72, 73] [0, 1, 4] [] 84 [.int .i64 0, .int .i64 0] [isV (.bool false), isV (.bool false), isV undef, isV undef, isV (.bool false)] (by rfl) alloc_Z ?_ ?_
                          · intro qi qh qA aa wx hb hs hd
                            match qi, qh, qA with
                            | 0, _, _ => exact .inl ⟨rfl, pure_b (bool_eq HHV.out) (op_mv rfl (hs 4 rfl))⟩
                            | 1, _, _ => exact .inl ⟨rfl, op_mv rfl (hd 0 rfl)⟩
                            | 2, _, _ => exact .inr ⟨⟨rfl, .inl (hd 1 rfl)⟩, rfl⟩
                            | 3, _, _ => exact .inr ⟨⟨rfl, .inl (hd 1 rfl)⟩, rfl⟩
                            | 4, _, _ => exact .inl ⟨rfl, ⟨_, op_pickF rfl (hd 1 rfl) rfl, rfl⟩⟩
                            | qi + 5, h, _ => omega
                          · intro vs X6 hb hv hal hne
                            have HL0 := Hd.mk (HE.out.lt)
                            have HBW := HB
                            replace HB := Hd.mk (bel_then HB.out hb)
                            replace HE : Hd (Env X6 [⟨w.heap.size, 24, [.int .i64 Wd, .int .i64 Ht, .slice (some ad) xs.length k]⟩]) := ⟨HE.out.to hb⟩
                            have HLS := HL0
                            have e73 : vs 73 = .bool false := hv 4 (by decide) rfl
                            simp only [putAll, List.foldl_cons, List.foldl_nil, Act.put, List.setIfInBounds_toArray, List.set_cons_succ, List.set_cons_zero, List.drop_succ_cons, List.drop_zero, e73]
                            generalize vs 69 = s69
                            generalize vs 70 = s70
                            generalize vs 71 = s71
                            generalize vs 72 = s72
                            clear hv hal hne hb HL0 HBW HLS e73
                            go_upto_region 26 with fail
                            refine wp_region_vd 5 [75, 76, 77, 78, 79] [0, 1, 4] [] 84 [.int .i64 0, .int .i64 0] [isV (.bool false), isV (.bool false), isV undef, isV undef, isV (.bool false)] (by rfl) alloc_Z ?_ ?_
                            · intro qi qh qA aa wx hb hs hd
                              match qi, qh, qA with
                              | 0, _, _ => exact .inl ⟨rfl, pure_b (bool_eq HHV.out) (op_mv rfl (hs 4 rfl))⟩
                              | 1, _, _ => exact .inl ⟨rfl, op_mv rfl (hd 0 rfl)⟩
                              | 2, _, _ => exact .inr ⟨⟨rfl, .inl (hd 1 rfl)⟩, rfl⟩
                              | 3, _, _ => exact .inr ⟨⟨rfl, .inl (hd 1 rfl)⟩, rfl⟩
                              | 4, _, _ => exact .inl ⟨rfl, ⟨_, op_pickF rfl (hd 1 rfl) rfl, rfl⟩⟩
                              | qi + 5, h, _ => omega
                            · intro vs X7 hb hv hal hne
                              have HL0 := Hd.mk (HE.out.lt)
                              have HBW := HB
                              replace HB := Hd.mk (bel_then HB.out hb)
                              replace HE : Hd (Env X7 [⟨w.heap.size, 24, [.int .i64 Wd, .int .i64 Ht, .slice (some ad) xs.length k]⟩]) := ⟨HE.out.to hb⟩
                              have HLS := HL0
                              have e79 : vs 79 = .bool false := hv 4 (by decide) rfl
                              simp only [putAll, List.foldl_cons, List.foldl_nil, Act.put, List.setIfInBounds_toArray, List.set_cons_succ, List.set_cons_zero, List.drop_succ_cons, List.drop_zero, e79]
                              generalize vs 75 = s75
                              generalize vs 76 = s76
                              generalize vs 77 = s77
                              generalize vs 78 = s78
                              clear hv hal hne hb HL0 HBW HLS e79
                              go_upto_region 28 with fail
                              refine wp_region_vd 1 [81] [0] [] 84 [.int .i64 0, .int .i64 0] [isV (.bool false)] (by rfl) alloc_Z ?_ ?_
                              · intro qi qh qA aa wx hb hs hd
                                match qi, qh, qA with
                                | 0, _, _ => exact .inl ⟨rfl, pure_b (bool_eq HHV.out) (op_mv rfl (hs 4 rfl))⟩
                                | qi + 1, h, _ => omega
                              · intro vs X8 hb hv hal hne
                                have HL0 := Hd.mk (HE.out.lt)
                                have HBW := HB
                                replace HB := Hd.mk (bel_then HB.out hb)
                                replace HE : Hd (Env X8 [⟨w.heap.size, 24, [.int .i64 Wd, .int .i64 Ht, .slice (some ad) xs.length k]⟩]) := ⟨HE.out.to hb⟩
                                have HLS := HL0
                                have e81 : vs 81 = .bool false := hv 0 (by decide) rfl
                                simp only [putAll, List.foldl_cons, List.foldl_nil, Act.put, List.setIfInBounds_toArray, List.set_cons_succ, List.set_cons_zero, List.drop_succ_cons, List.drop_zero, e81]
                                clear hv hal hne hb HL0 HBW HLS e81
                                by_cases h0 : fl = 0
                                · skip
                                  go_upto_region 30 with fail
                                  refine wp_region_vd 2 [83, 84] [0, 1] [] 84 [.int .i64 0, .int .i64 0] [isV (.int .i64 (((fl : Nat) : Int))), isV (.bool true)] (by rfl) alloc_Z ?_ ?_
                                  · intro qi qh qA aa wx hb hs hd
                                    match qi, qh, qA with
                                    | 0, _, _ => exact .inl ⟨rfl, op_mv rfl (hs 5 rfl)⟩
                                    | 1, _, _ => exact .inl ⟨rfl, pure_b (bool_eq (decide_eq_true (by omega))) (⟨_, op_eqlI rfl (hd 0 rfl) rfl, rfl⟩)⟩
                                    | qi + 2, h, _ => omega
                                  · intro vs X9 hb hv hal hne
                                    have HL0 := Hd.mk (HE.out.lt)
                                    have HBW := HB
                                    replace HB := Hd.mk (bel_then HB.out hb)
                                    replace HE : Hd (Env X9 [⟨w.heap.size, 24, [.int .i64 Wd, .int .i64 Ht, .slice (some ad) xs.length k]⟩]) := ⟨HE.out.to hb⟩
                                    have HLS := HL0
                                    have e84 : vs 84 = .bool true := hv 1 (by decide) rfl
                                    simp only [putAll, List.foldl_cons, List.foldl_nil, Act.put, List.setIfInBounds_toArray, List.set_cons_succ, List.set_cons_zero, List.drop_succ_cons, List.drop_zero, e84]
                                    generalize vs 83 = s83
                                    clear hv hal hne hb HL0 HBW HLS e84
                                    go_upto_region 31 with fail
                                    refine wp_region_vd 0 [] [] [] 84 [.int .i64 0, .int .i64 0] [] (by rfl) alloc_Z ?_ ?_
                                    · intro qi qh qA aa wx hb hs hd
                                      match qi, qh, qA with
                                      | qi + 0, h, _ => omega
                                    · intro vs X10 hb hv hal hne
                                      have HL0 := Hd.mk (HE.out.lt)
                                      have HBW := HB
                                      replace HB := Hd.mk (bel_then HB.out hb)
                                      replace HE : Hd (Env X10 [⟨w.heap.size, 24, [.int .i64 Wd, .int .i64 Ht, .slice (some ad) xs.length k]⟩]) := ⟨HE.out.to hb⟩
                                      have HLS := HL0
                                      simp only [putAll, List.foldl_cons, List.foldl_nil, Act.put, List.setIfInBounds_toArray, List.set_cons_succ, List.set_cons_zero, List.drop_succ_cons, List.drop_zero]
                                      clear hv hal hne hb HL0 HBW HLS
                                      go_wp2_with fail
                                      go_ret
                                      exact ⟨_, rfl, HB.out, by rw [HRES.out, show kindR q h fl mi (decide (0 < ce)) = 8 from by unfold kindR; simp [HQV.out, HHV.out, h0]]; rfl⟩
                                · skip
                                  go_upto_region 30 with fail
                                  refine wp_region_vd 2 [83, 84] [0, 1] [] 84 [.int .i64 0, .int .i64 0] [isV (.int .i64 (((fl : Nat) : Int))), isV (.bool false)] (by rfl) alloc_Z ?_ ?_
                                  · intro qi qh qA aa wx hb hs hd
                                    match qi, qh, qA with
                                    | 0, _, _ => exact .inl ⟨rfl, op_mv rfl (hs 5 rfl)⟩
                                    | 1, _, _ => exact .inl ⟨rfl, pure_b (bool_eq (decide_eq_false (by omega))) (⟨_, op_eqlI rfl (hd 0 rfl) rfl, rfl⟩)⟩
                                    | qi + 2, h, _ => omega
                                  · intro vs X9 hb hv hal hne
                                    have HL0 := Hd.mk (HE.out.lt)
                                    have HBW := HB
                                    replace HB := Hd.mk (bel_then HB.out hb)
                                    replace HE : Hd (Env X9 [⟨w.heap.size, 24, [.int .i64 Wd, .int .i64 Ht, .slice (some ad) xs.length k]⟩]) := ⟨HE.out.to hb⟩
                                    have HLS := HL0
                                    have e84 : vs 84 = .bool false := hv 1 (by decide) rfl
                                    simp only [putAll, List.foldl_cons, List.foldl_nil, Act.put, List.setIfInBounds_toArray, List.set_cons_succ, List.set_cons_zero, List.drop_succ_cons, List.drop_zero, e84]
                                    generalize vs 83 = s83
                                    clear hv hal hne hb HL0 HBW HLS e84
                                    by_cases h1 : mi = 0
                                    · skip
                                      go_upto_region 32 with fail
                                      refine wp_region_vd 2 [86, 87] [0, 1] [] 84 [.int .i64 0, .int .i64 0] [isV (.int .i64 (((mi : Nat) : Int))), isV (.bool true)] (by rfl) alloc_Z ?_ ?_
                                      · intro qi qh qA aa wx hb hs hd
                                        match qi, qh, qA with
                                        | 0, _, _ => exact .inl ⟨rfl, op_mv rfl (hs 6 rfl)⟩
                                        | 1, _, _ => exact .inl ⟨rfl, pure_b (bool_eq (decide_eq_true (by omega))) (⟨_, op_eqlI rfl (hd 0 rfl) rfl, rfl⟩)⟩
                                        | qi + 2, h, _ => omega
                                      · intro vs X10 hb hv hal hne
                                        have HL0 := Hd.mk (HE.out.lt)
                                        have HBW := HB
                                        replace HB := Hd.mk (bel_then HB.out hb)
                                        replace HE : Hd (Env X10 [⟨w.heap.size, 24, [.int .i64 Wd, .int .i64 Ht, .slice (some ad) xs.length k]⟩]) := ⟨HE.out.to hb⟩
                                        have HLS := HL0
                                        have e87 : vs 87 = .bool true := hv 1 (by decide) rfl
                                        simp only [putAll, List.foldl_cons, List.foldl_nil, Act.put, List.setIfInBounds_toArray, List.set_cons_succ, List.set_cons_zero, List.drop_succ_cons, List.drop_zero, e87]
                                        generalize vs 86 = s86
                                        clear hv hal hne hb HL0 HBW HLS e87
                                        go_upto_region 33 with fail
                                        refine wp_region_vd 0 [] [] [] 84 [.int .i64 0, .int .i64 0] [] (by rfl) alloc_Z ?_ ?_
                                        · intro qi qh qA aa wx hb hs hd
                                          match qi, qh, qA with
                                          | qi + 0, h, _ => omega
                                        · intro vs X11 hb hv hal hne
                                          have HL0 := Hd.mk (HE.out.lt)
                                          have HBW := HB
                                          replace HB := Hd.mk (bel_then HB.out hb)
                                          replace HE : Hd (Env X11 [⟨w.heap.size, 24, [.int .i64 Wd, .int .i64 Ht, .slice (some ad) xs.length k]⟩]) := ⟨HE.out.to hb⟩
                                          have HLS := HL0
                                          simp only [putAll, List.foldl_cons, List.foldl_nil, Act.put, List.setIfInBounds_toArray, List.set_cons_succ, List.set_cons_zero, List.drop_succ_cons, List.drop_zero]
                                          clear hv hal hne hb HL0 HBW HLS
                                          go_wp2_with fail
                                          go_ret
                                          exact ⟨_, rfl, HB.out, by rw [HRES.out, show kindR q h fl mi (decide (0 < ce)) = 9 from by unfold kindR; simp [HQV.out, HHV.out, h0, h1]]; rfl⟩
                                    · skip
                                      go_upto_region 32 with fail
                                      refine wp_region_vd 2 [86, 87] [0, 1] [] 84 [.int .i64 0, .int .i64 0] [isV (.int .i64 (((mi : Nat) : Int))), isV (.bool false)] (by rfl) alloc_Z ?_ ?_
                                      · intro qi qh qA aa wx hb hs hd
                                        match qi, qh, qA with
                                        | 0, _, _ => exact .inl ⟨rfl, op_mv rfl (hs 6 rfl)⟩
                                        | 1, _, _ => exact .inl ⟨rfl, pure_b (bool_eq (decide_eq_false (by omega))) (⟨_, op_eqlI rfl (hd 0 rfl) rfl, rfl⟩)⟩
                                        | qi + 2, h, _ => omega
                                      · intro vs X10 hb hv hal hne
                                        have HL0 := Hd.mk (HE.out.lt)
                                        have HBW := HB
                                        replace HB := Hd.mk (bel_then HB.out hb)
                                        replace HE : Hd (Env X10 [⟨w.heap.size, 24, [.int .i64 Wd, .int .i64 Ht, .slice (some ad) xs.length k]⟩]) := ⟨HE.out.to hb⟩
                                        have HLS := HL0
                                        have e87 : vs 87 = .bool false := hv 1 (by decide) rfl
                                        simp only [putAll, List.foldl_cons, List.foldl_nil, Act.put, List.setIfInBounds_toArray, List.set_cons_succ, List.set_cons_zero, List.drop_succ_cons, List.drop_zero, e87]
                                        generalize vs 86 = s86
                                        clear hv hal hne hb HL0 HBW HLS e87
                                        by_cases h2 : 0 < ce
                                        · skip
                                          go_upto_region 34 with fail
                                          refine wp_region_vd 2 [89, 90] [0, 1] [] 84 [.int .i64 0, .int .i64 0] [isV (.int .i64 (((ce : Nat) : Int))), isV (.bool true)] (by rfl) alloc_Z ?_ ?_
                                          · intro qi qh qA aa wx hb hs hd
                                            match qi, qh, qA with
                                            | 0, _, _ => exact .inl ⟨rfl, op_mv rfl (hs 7 rfl)⟩
                                            | 1, _, _ => exact .inl ⟨rfl, pure_b (bool_eq (decide_eq_true (by omega))) (⟨_, op_gtrI rfl (hd 0 rfl) rfl, rfl⟩)⟩
                                            | qi + 2, h, _ => omega
                                          · intro vs X11 hb hv hal hne
                                            have HL0 := Hd.mk (HE.out.lt)
                                            have HBW := HB
                                            replace HB := Hd.mk (bel_then HB.out hb)
                                            replace HE : Hd (Env X11 [⟨w.heap.size, 24, [.int .i64 Wd, .int .i64 Ht, .slice (some ad) xs.length k]⟩]) := ⟨HE.out.to hb⟩
                                            have HLS := HL0
                                            have e90 : vs 90 = .bool true := hv 1 (by decide) rfl
                                            simp only [putAll, List.foldl_cons, List.foldl_nil, Act.put, List.setIfInBounds_toArray, List.set_cons_succ, List.set_cons_zero, List.drop_succ_cons, List.drop_zero, e90]
                                            generalize vs 89 = s89
                                            clear hv hal hne hb HL0 HBW HLS e90
                                            go_upto_region 35 with fail
                                            refine wp_region_vd 0 [] [] [] 84 [.int .i64 0, .int .i64 0] [] (by rfl) alloc_Z ?_ ?_
                                            · intro qi qh qA aa wx hb hs hd
                                              match qi, qh, qA with
                                              | qi + 0, h, _ => omega
                                            · intro vs X12 hb hv hal hne
                                              have HL0 := Hd.mk (HE.out.lt)
                                              have HBW := HB
                                              replace HB := Hd.mk (bel_then HB.out hb)
                                              replace HE : Hd (Env X12 [⟨w.heap.size, 24, [.int .i64 Wd, .int .i64 Ht, .slice (some ad) xs.length k]⟩]) := ⟨HE.out.to hb⟩
                                              have HLS := HL0
                                              simp only [putAll, List.foldl_cons, List.foldl_nil, Act.put, List.setIfInBounds_toArray, List.set_cons_succ, List.set_cons_zero, List.drop_succ_cons, List.drop_zero]
                                              clear hv hal hne hb HL0 HBW HLS
                                              go_wp2_with fail
                                              go_ret
                                              exact ⟨_, rfl, HB.out, by rw [HRES.out, show kindR q h fl mi (decide (0 < ce)) = 10 from by unfold kindR; simp [HQV.out, HHV.out, h0, h1, h2]]; rfl⟩
                                        · skip
                                          go_upto_region 34 with fail
                                          refine wp_region_vd 2 [89, 90] [0, 1] [] 84 [.int .i64 0, .int .i64 0] [isV (.int .i64 (((ce : Nat) : Int))), isV (.bool false)] (by rfl) alloc_Z ?_ ?_
                                          · intro qi qh qA aa wx hb hs hd
                                            match qi, qh, qA with
                                            | 0, _, _ => exact .inl ⟨rfl, op_mv rfl (hs 7 rfl)⟩
                                            | 1, _, _ => exact .inl ⟨rfl, pure_b (bool_eq (decide_eq_false (by omega))) (⟨_, op_gtrI rfl (hd 0 rfl) rfl, rfl⟩)⟩
                                            | qi + 2, h, _ => omega
                                          · intro vs X11 hb hv hal hne
                                            have HL0 := Hd.mk (HE.out.lt)
                                            have HBW := HB
                                            replace HB := Hd.mk (bel_then HB.out hb)
                                            replace HE : Hd (Env X11 [⟨w.heap.size, 24, [.int .i64 Wd, .int .i64 Ht, .slice (some ad) xs.length k]⟩]) := ⟨HE.out.to hb⟩
                                            have HLS := HL0
                                            have e90 : vs 90 = .bool false := hv 1 (by decide) rfl
                                            simp only [putAll, List.foldl_cons, List.foldl_nil, Act.put, List.setIfInBounds_toArray, List.set_cons_succ, List.set_cons_zero, List.drop_succ_cons, List.drop_zero, e90]
                                            generalize vs 89 = s89
                                            clear hv hal hne hb HL0 HBW HLS e90
                                            go_upto_region 36 with fail
                                            refine wp_region_vd 0 [] [] [] 84 [.int .i64 0, .int .i64 0] [] (by rfl) alloc_Z ?_ ?_
                                            · intro qi qh qA aa wx hb hs hd
                                              match qi, qh, qA with
                                              | qi + 0, h, _ => omega
                                            · intro vs X12 hb hv hal hne
                                              have HL0 := Hd.mk (HE.out.lt)
                                              have HBW := HB
                                              replace HB := Hd.mk (bel_then HB.out hb)
                                              replace HE : Hd (Env X12 [⟨w.heap.size, 24, [.int .i64 Wd, .int .i64 Ht, .slice (some ad) xs.length k]⟩]) := ⟨HE.out.to hb⟩
                                              have HLS := HL0
                                              simp only [putAll, List.foldl_cons, List.foldl_nil, Act.put, List.setIfInBounds_toArray, List.set_cons_succ, List.set_cons_zero, List.drop_succ_cons, List.drop_zero]
                                              clear hv hal hne hb HL0 HBW HLS
                                              go_wp2_with fail
                                              go_ret
                                              exact ⟨_, rfl, HB.out, by rw [HRES.out, show kindR q h fl mi (decide (0 < ce)) = 11 from by unfold kindR; simp [HQV.out, HHV.out, h0, h1, h2]]; rfl⟩
end Go.Proofs.Ytddbmckbankmeaa
