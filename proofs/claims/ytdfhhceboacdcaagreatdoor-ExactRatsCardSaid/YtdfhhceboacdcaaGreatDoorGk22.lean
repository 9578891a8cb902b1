/- Part 22 of the texts behind this claim. -/
import Derived.Test.YtdfhhceboacdcaaGreatDoorGk13
import Derived.Test.YtdfhhceboacdcaaGreatDoorGk21
set_option linter.unusedVariables false
set_option linter.unusedSimpArgs false
namespace Go.Proofs.YtdfhhceboacdcaaGreatDoor
open Go.RowKit
def nrN (x y : Raw) : Int := if (x.ok && y.ok) = true then (if y.val = 0 then 0 else fitn (qn x.val y.val) (qd x.val y.val)) else 0
def nrD (x y : Raw) : Int := if (x.ok && y.ok) = true then (if y.val = 0 then 0 else fitd (qn x.val y.val) (qd x.val y.val)) else 0
def nrE (x y : Raw) : Int := if (x.ok && y.ok) = true then (if y.val = 0 then 4 else fitc (qn x.val y.val) (qd x.val y.val)) else 2
theorem all_two_raw (x y : Raw) : [x, y].all Raw.ok = (x.ok && y.ok) := by simp
set_option maxRecDepth 100000 in
set_option maxHeartbeats 1000000 in
theorem NewRat_got (x y : Raw) (v0 v1 : Value) (w : World) (h0 : (isL [rC x]).p v0 w) (h1 : (isL [rC y]).p v1 w) :
  Calls Tryz.prog 9 #[v0, v1] w (Got w (isP (isL [zC (nrN x y), zC (nrD x y)]) (isV (.int .i64 (nrE x y)))).p) := by
 obtain ⟨u0, x0, rfl, p0⟩ := isL_one.1 h0; obtain ⟨u1, x1, rfl, p1⟩ := isL_one.1 h1; clear h0 h1; by_cases hok : (x.ok && y.ok) = true
 ·have hx : x.ok = true := by simp at hok; exact hok.1
  have hy : y.ok = true := by simp at hok; exact hok.2
  have l1 := rC_len hx p0; have l2 := rC_len hy p1; have HK1 := Hd.mk hx; have HK2 := Hd.mk hy; have HOK : Hd ([x, y].all Raw.ok = true) := ⟨by rw [all_two_raw]; exact hok⟩; clear hx hy; by_cases hz : y.val = 0
  ·have e0 : nrN x y = 0 := by unfold nrN; rw [if_pos hok, if_pos hz]
   have e1 : nrD x y = 0 := by unfold nrD; rw [if_pos hok, if_pos hz]
   have e2 : nrE x y = 4 := by unfold nrE; rw [if_pos hok, if_pos hz]
   rw [e0, e1, e2]; clear e0 e1 e2; have HZ : Hd (decide (((ln y.val.natAbs : Nat) : Int) = 0) = true) := ⟨decide_eq_true (by rw [hz]; show ((ln 0 : Nat) : Int) = 0; rw [ln_zero]; rfl)⟩; have HZ2 := Hd.mk (decide_eq_true hz); clear hz hok; go_enter Tryz.func9, Tryz.ntmps9
   go_upto_region 1 with fail
   obtain ⟨W0, hW0⟩ : ∃ W : World, W = ((w.alloc (.cells #[u0, x0] 24)).alloc (.cells #[u1, x1] 24)).alloc (.cells #[Value.bool false, Value.slice none 0 0, Value.bool false, Value.slice none 0 0] 26) := ⟨_, rfl⟩; rw [← hW0]; obtain ⟨he, hb⟩ := env_three (cp1 p0) (cp1 p1) (cp2 (cp0 _) (cp0 _)) hW0; have HE := Hd.mk he; have HB := Hd.mk hb; clear he hb hW0; refine wp_region_vd 5 [6, 7, 8, 9, 10] [4] [] 51 [.bool false, .slice none 0 0] [isL [rC x], isL [rC y], isRaws [x, y], qT, qF] (by rfl) alloc_whole ?_ ?_
   ·intro i hi hA aa wx hb hs hd
    match i, hi, hA with
    | 0, _, _ => exact aL (op_ldI rfl rfl (hs 2 rfl) ((HE.out.to hb).get 0 rfl).a0) | 1, _, _ => exact aL (op_ldI rfl rfl (hs 3 rfl) ((HE.out.to hb).get 1 rfl).a0) | 2, _, _ => exact aL (op_bsI rfl rfl (hd 0 rfl) (hd 1 rfl)) | 3, _, _ => exact aL (wp_b HOK.out (op_call1 rfl rfl Tryz.call24 (valid_got [x, y] (Nat.le_refl 2) _ _ (hd 2 rfl)))) | 4, _, _ => exact aL ⟨_, op_not rfl (hd 3 rfl), rfl⟩ | i + 5, h, _ => omega
   intro vs X1 hb hv hal hne; replace HB := Hd.mk (bel_then HB.out hb); replace HE := Hd.mk (HE.out.to hb); have e10 : vs 10 = .bool false := hv 4 (by decide) rfl; simp only [PA, e10]; clear hv hal hne hb; go_upto_region 3 with fail
   refine wp_region_vd 4 [12, 13, 14, 15] [0, 3] [] 51 [.bool false, .slice none 0 0] [isV (.pointer (some ⟨w.heap.size + 1, 1, none⟩)), isN y.val.natAbs, qI ((ln y.val.natAbs : Nat) : Int), qT] (by rfl) alloc_whole ?_ ?_
   ·intro i hi hA aa wx hb hs hd
    match i, hi, hA with
    | 0, _, _ => exact aL ⟨_, op_faI1 rfl (hs 3 rfl), rfl⟩ | 1, _, _ => exact aL (op_ldnw (off := 0) rfl rfl (hd 0 rfl) (((HE.out.to hb).get 1 rfl).a0.z HK2.out)) | 2, _, _ => exact aL (op_lenw rfl rfl (hd 1 rfl)) | 3, _, _ => exact aL (pure_b HZ.out (⟨_, op_eql0 rfl (hd 2 rfl), rfl⟩)) | i + 4, h, _ => omega
   intro vs X2 hb hv hal hne; replace HB := Hd.mk (bel_then HB.out hb); replace HE := Hd.mk (HE.out.to hb); have e15 : vs 15 = .bool true := hv 3 (by decide) rfl; simp only [PA, e15]; clear hv hal hne hb; go_upto_region 4 with fail
   refine wp_region_vd 1 [16] [0] [] 51 [.bool false, .slice none 0 0] [isL [zC 0, zC 0]] (by rfl) alloc_whole ?_ ?_
   ·intro i hi hA aa wx hb hs hd
    match i, hi, hA with
    | 0, _, _ => exact aL (op_b0R rfl) | i + 1, h, _ => omega
   intro vs X3 hb hv hal hne; replace HB := Hd.mk (bel_then HB.out hb); replace HE := Hd.mk (HE.out.to hb); have t16 : (isL [zC 0, zC 0]).p (vs 16) X3 := hv 0 (by decide) rfl; obtain ⟨u16, y16, p16, q16, e16, c16, k16⟩ := isL_two.1 t16; simp only [PA, e16]; refine wpList_st rfl rfl rfl rfl rfl (sto_R c16 k16 (HE.out.get 2 rfl)) ?_; have HE' : Env (putAt (putAt X3 (w.heap.size + 1 + 1) 0 u16 y16) (w.heap.size + 1 + 1) 2 p16 q16) [⟨w.heap.size, 24, [rC x]⟩, ⟨w.heap.size + 1, 24, [rC y]⟩, ⟨w.heap.size + 1 + 1, 26, [zC 0, zC 0]⟩] := HE.out.put4 2 rfl c16 k16; have HB' := below_put4 (u := u16) (v := y16) (u' := p16) (v' := q16) HB.out (show w.heap.size ≤ w.heap.size + 1 + 1 from by omega); generalize putAt (putAt X3 (w.heap.size + 1 + 1) 0 u16 y16) (w.heap.size + 1 + 1) 2 p16 q16 = X4 at *; replace HE := Hd.mk HE'; replace HB := Hd.mk HB'; clear HE' HB'; clear hv hal hne hb; go_wp2_with fail
   obtain ⟨r0a, r0b, r0c, r0d, k0a, k0b, k0c, k0d, h0a, h0b⟩ := (HE.out.get 2 rfl).cells2; refine bodyPost_ret (v := .tuple #[.agg #[r0a, r0b, r0c, r0d], .int .i64 4]) (by simp [results, Tryz.results9, go_sem, k0a, k0b, k0c, k0d]) rfl ?_; exact ⟨_, rfl, HB.out, _, _, rfl, isL_two.2 ⟨_, _, _, _, rfl, h0a, h0b⟩, rfl⟩
  have e0 : nrN x y = fitn (qn x.val y.val) (qd x.val y.val) := by unfold nrN; rw [if_pos hok, if_neg hz]
  have e1 : nrD x y = fitd (qn x.val y.val) (qd x.val y.val) := by unfold nrD; rw [if_pos hok, if_neg hz]
  have e2 : nrE x y = fitc (qn x.val y.val) (qd x.val y.val) := by unfold nrE; rw [if_pos hok, if_neg hz]
  rw [e0, e1, e2]; clear e0 e1 e2; have HZ : Hd (decide (((ln y.val.natAbs : Nat) : Int) = 0) = false) := ⟨decide_eq_false (by have := ln_eq_zero (n := y.val.natAbs); omega)⟩; have HZ2 := Hd.mk (decide_eq_false hz); have HY0 : Hd (y.val ≠ 0) := ⟨hz⟩; have HL1 : Hd (ln (qn x.val y.val).natAbs ≤ 100000) := ⟨Nat.le_trans (ln_qn _ _) (by omega)⟩; have HL2 : Hd (ln (qd x.val y.val).natAbs ≤ 100000) := ⟨Nat.le_trans (ln_qd _ _) (by omega)⟩; clear hz hok; go_enter Tryz.func9, Tryz.ntmps9
  go_upto_region 1 with fail
  obtain ⟨W0, hW0⟩ : ∃ W : World, W = ((w.alloc (.cells #[u0, x0] 24)).alloc (.cells #[u1, x1] 24)).alloc (.cells #[Value.bool false, Value.slice none 0 0, Value.bool false, Value.slice none 0 0] 26) := ⟨_, rfl⟩; rw [← hW0]; obtain ⟨he, hb⟩ := env_three (cp1 p0) (cp1 p1) (cp2 (cp0 _) (cp0 _)) hW0; have HE := Hd.mk he; have HB := Hd.mk hb; clear he hb hW0; refine wp_region_vd 5 [6, 7, 8, 9, 10] [4] [] 51 [.bool false, .slice none 0 0] [isL [rC x], isL [rC y], isRaws [x, y], qT, qF] (by rfl) alloc_whole ?_ ?_
  ·intro i hi hA aa wx hb hs hd
   match i, hi, hA with
   | 0, _, _ => exact aL (op_ldI rfl rfl (hs 2 rfl) ((HE.out.to hb).get 0 rfl).a0) | 1, _, _ => exact aL (op_ldI rfl rfl (hs 3 rfl) ((HE.out.to hb).get 1 rfl).a0) | 2, _, _ => exact aL (op_bsI rfl rfl (hd 0 rfl) (hd 1 rfl)) | 3, _, _ => exact aL (wp_b HOK.out (op_call1 rfl rfl Tryz.call24 (valid_got [x, y] (Nat.le_refl 2) _ _ (hd 2 rfl)))) | 4, _, _ => exact aL ⟨_, op_not rfl (hd 3 rfl), rfl⟩ | i + 5, h, _ => omega
  intro vs X1 hb hv hal hne; replace HB := Hd.mk (bel_then HB.out hb); replace HE := Hd.mk (HE.out.to hb); have e10 : vs 10 = .bool false := hv 4 (by decide) rfl; simp only [PA, e10]; clear hv hal hne hb; go_upto_region 3 with fail
  refine wp_region_vd 4 [12, 13, 14, 15] [0, 3] [] 51 [.bool false, .slice none 0 0] [isV (.pointer (some ⟨w.heap.size + 1, 1, none⟩)), isN y.val.natAbs, qI ((ln y.val.natAbs : Nat) : Int), qF] (by rfl) alloc_whole ?_ ?_
  ·intro i hi hA aa wx hb hs hd
   match i, hi, hA with
   | 0, _, _ => exact aL ⟨_, op_faI1 rfl (hs 3 rfl), rfl⟩ | 1, _, _ => exact aL (op_ldnw (off := 0) rfl rfl (hd 0 rfl) (((HE.out.to hb).get 1 rfl).a0.z HK2.out)) | 2, _, _ => exact aL (op_lenw rfl rfl (hd 1 rfl)) | 3, _, _ => exact aL (pure_b HZ.out (⟨_, op_eql0 rfl (hd 2 rfl), rfl⟩)) | i + 4, h, _ => omega
  intro vs X2 hb hv hal hne; replace HB := Hd.mk (bel_then HB.out hb); replace HE := Hd.mk (HE.out.to hb); have e15 : vs 15 = .bool false := hv 3 (by decide) rfl; simp only [PA, e15]; clear hv hal hne hb; go_upto_region 5 with fail
  refine wp_region_vs 8 [17, 18, 19, 20, 21, 22, 23, 24] [6, 7] [] 51 [.bool false, .slice none 0 0] [isL [rC x], isZ x.val, isL [rC y], isZ y.val, isL [zC (qn x.val y.val), zC (qd x.val y.val)], isP (isL [zC (fitn (qn x.val y.val) (qd x.val y.val)), zC (fitd (qn x.val y.val) (qd x.val y.val))]) (qI (fitc (qn x.val y.val) (qd x.val y.val))), isL [zC (fitn (qn x.val y.val) (qd x.val y.val)), zC (fitd (qn x.val y.val) (qd x.val y.val))], qI (fitc (qn x.val y.val) (qd x.val y.val))] (by kernel_rfl) (by kernel_rfl) (by kernel_rfl) (by rfl) alloc_whole (fun d v c a w h => by cases d <;> exact h) ?_ ?_
  ·intro i hi hA aa wx hb hs hd
   match i, hi, hA with
   | 0, _, _ => exact op_ldI rfl rfl (hs 2 rfl) ((HE.out.to hb).get 0 rfl).a0 | 1, _, _ => exact op_call1 rfl rfl Tryz.call26 (of_rz x HK1.out _ _ (hd 0 rfl)) | 2, _, _ => exact op_ldI rfl rfl (hs 3 rfl) ((HE.out.to hb).get 1 rfl).a0 | 3, _, _ => exact op_call1 rfl rfl Tryz.call26 (of_rz y HK2.out _ _ (hd 2 rfl)) | 4, _, _ => exact op_call2 rfl rfl Tryz.call25 (lowest_got x.val y.val _ _ _ (hd 1 rfl) (hd 3 rfl) HY0.out (by omega) (by omega)) | 5, _, _ => exact op_call1 rfl rfl Tryz.call27 (qfits_got (qn x.val y.val) (qd x.val y.val) HL1.out HL2.out _ _ (hd 4 rfl)) | 6, _, _ => exact op_fst rfl (hd 5 rfl) | 7, _, _ => exact op_snd rfl (hd 5 rfl) | i + 8, h, _ => omega
  intro vs X3 hb hv hal hne; replace HB := Hd.mk (bel_then HB.out hb); replace HE := Hd.mk (HE.out.to hb); have t23 : (isL [zC (fitn (qn x.val y.val) (qd x.val y.val)), zC (fitd (qn x.val y.val) (qd x.val y.val))]).p (vs 23) X3 := hv 6 (by decide) rfl; obtain ⟨u23, y23, p23, q23, e23, c23, k23⟩ := isL_two.1 t23; have e24 : vs 24 = .int .i64 (fitc (qn x.val y.val) (qd x.val y.val)) := hv 7 (by decide) rfl; simp only [PA, e23, e24]; refine wpList_st rfl rfl rfl rfl rfl (sto_R c23 k23 (HE.out.get 2 rfl)) ?_; have HE' : Env (putAt (putAt X3 (w.heap.size + 1 + 1) 0 u23 y23) (w.heap.size + 1 + 1) 2 p23 q23) [⟨w.heap.size, 24, [rC x]⟩, ⟨w.heap.size + 1, 24, [rC y]⟩, ⟨w.heap.size + 1 + 1, 26, [zC (fitn (qn x.val y.val) (qd x.val y.val)), zC (fitd (qn x.val y.val) (qd x.val y.val))]⟩] := HE.out.put4 2 rfl c23 k23; have HB' := below_put4 (u := u23) (v := y23) (u' := p23) (v' := q23) HB.out (show w.heap.size ≤ w.heap.size + 1 + 1 from by omega); generalize putAt (putAt X3 (w.heap.size + 1 + 1) 0 u23 y23) (w.heap.size + 1 + 1) 2 p23 q23 = X4 at *; replace HE := Hd.mk HE'; replace HB := Hd.mk HB'; clear HE' HB'; clear hv hal hne hb; go_wp2_with fail
  obtain ⟨r0a, r0b, r0c, r0d, k0a, k0b, k0c, k0d, h0a, h0b⟩ := (HE.out.get 2 rfl).cells2; refine bodyPost_ret (v := .tuple #[.agg #[r0a, r0b, r0c, r0d], .int .i64 (fitc (qn x.val y.val) (qd x.val y.val))]) (by simp [results, Tryz.results9, go_sem, k0a, k0b, k0c, k0d]) rfl ?_; exact ⟨_, rfl, HB.out, _, _, rfl, isL_two.2 ⟨_, _, _, _, rfl, h0a, h0b⟩, rfl⟩
 have e0 : nrN x y = 0 := by unfold nrN; rw [if_neg hok]
 have e1 : nrD x y = 0 := by unfold nrD; rw [if_neg hok]
 have e2 : nrE x y = 2 := by unfold nrE; rw [if_neg hok]
 rw [e0, e1, e2]; clear e0 e1 e2; have hno : (x.ok && y.ok) = false := by simpa using hok
 have HOK : Hd ([x, y].all Raw.ok = false) := ⟨by rw [all_two_raw]; exact hno⟩; clear hno hok; go_enter Tryz.func9, Tryz.ntmps9
 go_upto_region 1 with fail
 obtain ⟨W0, hW0⟩ : ∃ W : World, W = ((w.alloc (.cells #[u0, x0] 24)).alloc (.cells #[u1, x1] 24)).alloc (.cells #[Value.bool false, Value.slice none 0 0, Value.bool false, Value.slice none 0 0] 26) := ⟨_, rfl⟩; rw [← hW0]; obtain ⟨he, hb⟩ := env_three (cp1 p0) (cp1 p1) (cp2 (cp0 _) (cp0 _)) hW0; have HE := Hd.mk he; have HB := Hd.mk hb; clear he hb hW0; refine wp_region_vd 5 [6, 7, 8, 9, 10] [4] [] 51 [.bool false, .slice none 0 0] [isL [rC x], isL [rC y], isRaws [x, y], qF, qT] (by rfl) alloc_whole ?_ ?_
 ·intro i hi hA aa wx hb hs hd
  match i, hi, hA with
  | 0, _, _ => exact aL (op_ldI rfl rfl (hs 2 rfl) ((HE.out.to hb).get 0 rfl).a0) | 1, _, _ => exact aL (op_ldI rfl rfl (hs 3 rfl) ((HE.out.to hb).get 1 rfl).a0) | 2, _, _ => exact aL (op_bsI rfl rfl (hd 0 rfl) (hd 1 rfl)) | 3, _, _ => exact aL (wp_b HOK.out (op_call1 rfl rfl Tryz.call24 (valid_got [x, y] (Nat.le_refl 2) _ _ (hd 2 rfl)))) | 4, _, _ => exact aL ⟨_, op_not rfl (hd 3 rfl), rfl⟩ | i + 5, h, _ => omega
 intro vs X1 hb hv hal hne; replace HB := Hd.mk (bel_then HB.out hb); replace HE := Hd.mk (HE.out.to hb); have e10 : vs 10 = .bool true := hv 4 (by decide) rfl; simp only [PA, e10]; clear hv hal hne hb; go_upto_region 2 with fail
 refine wp_region_vd 1 [11] [0] [] 51 [.bool false, .slice none 0 0] [isL [zC 0, zC 0]] (by rfl) alloc_whole ?_ ?_
 ·intro i hi hA aa wx hb hs hd
  match i, hi, hA with
  | 0, _, _ => exact aL (op_b0R rfl) | i + 1, h, _ => omega
 intro vs X2 hb hv hal hne; replace HB := Hd.mk (bel_then HB.out hb); replace HE := Hd.mk (HE.out.to hb); have t11 : (isL [zC 0, zC 0]).p (vs 11) X2 := hv 0 (by decide) rfl; obtain ⟨u11, y11, p11, q11, e11, c11, k11⟩ := isL_two.1 t11; simp only [PA, e11]; refine wpList_st rfl rfl rfl rfl rfl (sto_R c11 k11 (HE.out.get 2 rfl)) ?_; have HE' : Env (putAt (putAt X2 (w.heap.size + 1 + 1) 0 u11 y11) (w.heap.size + 1 + 1) 2 p11 q11) [⟨w.heap.size, 24, [rC x]⟩, ⟨w.heap.size + 1, 24, [rC y]⟩, ⟨w.heap.size + 1 + 1, 26, [zC 0, zC 0]⟩] := HE.out.put4 2 rfl c11 k11; have HB' := below_put4 (u := u11) (v := y11) (u' := p11) (v' := q11) HB.out (show w.heap.size ≤ w.heap.size + 1 + 1 from by omega); generalize putAt (putAt X2 (w.heap.size + 1 + 1) 0 u11 y11) (w.heap.size + 1 + 1) 2 p11 q11 = X3 at *; replace HE := Hd.mk HE'; replace HB := Hd.mk HB'; clear HE' HB'; clear hv hal hne hb; go_wp2_with fail
 obtain ⟨r0a, r0b, r0c, r0d, k0a, k0b, k0c, k0d, h0a, h0b⟩ := (HE.out.get 2 rfl).cells2; refine bodyPost_ret (v := .tuple #[.agg #[r0a, r0b, r0c, r0d], .int .i64 2]) (by simp [results, Tryz.results9, go_sem, k0a, k0b, k0c, k0d]) rfl ?_; exact ⟨_, rfl, HB.out, _, _, rfl, isL_two.2 ⟨_, _, _, _, rfl, h0a, h0b⟩, rfl⟩
set_option maxRecDepth 100000 in
set_option maxHeartbeats 1000000 in
theorem rNewRat_got (x y : Raw) (v0 v1 : Value) (w : World) (h0 : (isL [rC x]).p v0 w) (h1 : (isL [rC y]).p v1 w) :
  Calls Tryz.prog 10 #[v0, v1] w (Got w (isP (isL [zC (nrN x y), zC (nrD x y)]) (isV (.int .i64 (nrE x y)))).p) := by
 obtain ⟨u0, x0, rfl, p0⟩ := isL_one.1 h0; obtain ⟨u1, x1, rfl, p1⟩ := isL_one.1 h1; clear h0 h1; by_cases hok : (x.ok && y.ok) = true
 ·have hx : x.ok = true := by simp at hok; exact hok.1
  have hy : y.ok = true := by simp at hok; exact hok.2
  have l1 := rC_len hx p0; have l2 := rC_len hy p1; have HK1 := Hd.mk hx; have HK2 := Hd.mk hy; have HOK : Hd ([x, y].all Raw.ok = true) := ⟨by rw [all_two_raw]; exact hok⟩; clear hx hy; by_cases hz : y.val = 0
  ·have e0 : nrN x y = 0 := by unfold nrN; rw [if_pos hok, if_pos hz]
   have e1 : nrD x y = 0 := by unfold nrD; rw [if_pos hok, if_pos hz]
   have e2 : nrE x y = 4 := by unfold nrE; rw [if_pos hok, if_pos hz]
   rw [e0, e1, e2]; clear e0 e1 e2; have HZ : Hd (decide (((ln y.val.natAbs : Nat) : Int) = 0) = true) := ⟨decide_eq_true (by rw [hz]; show ((ln 0 : Nat) : Int) = 0; rw [ln_zero]; rfl)⟩; have HZ2 := Hd.mk (decide_eq_true hz); clear hz hok; go_enter Tryz.func10, Tryz.ntmps10
   go_upto_region 1 with fail
   obtain ⟨W0, hW0⟩ : ∃ W : World, W = ((w.alloc (.cells #[u0, x0] 24)).alloc (.cells #[u1, x1] 24)).alloc (.cells #[Value.bool false, Value.slice none 0 0, Value.bool false, Value.slice none 0 0] 26) := ⟨_, rfl⟩; rw [← hW0]; obtain ⟨he, hb⟩ := env_three (cp1 p0) (cp1 p1) (cp2 (cp0 _) (cp0 _)) hW0; have HE := Hd.mk he; have HB := Hd.mk hb; clear he hb hW0; refine wp_region_vd 8 [6, 7, 8, 9, 10, 11, 12, 13] [2, 3, 6, 7] [] 51 [.bool false, .slice none 0 0] [isL [rC x], qT, qF, qF, isL [rC y], qT, qF, qF] (by rfl) alloc_whole ?_ ?_
   ·intro i hi hA aa wx hb hs hd
    match i, hi, hA with
    | 0, _, _ => exact aL (op_ldI rfl rfl (hs 2 rfl) ((HE.out.to hb).get 0 rfl).a0) | 1, _, _ => exact aL (wp_b HK1.out (op_call1 rfl rfl Tryz.call28 (rValid_rz x _ _ (hd 0 rfl)))) | 2, _, _ => exact aL ⟨_, op_not rfl (hd 1 rfl), rfl⟩ | 3, _, _ => exact aL (op_mv rfl (hd 2 rfl)) | 4, _, _ => exact .inl ⟨⟨rfl, hd 3 rfl⟩, op_ldI rfl rfl (hs 3 rfl) ((HE.out.to hb).get 1 rfl).a0⟩ | 5, _, _ => exact .inl ⟨⟨rfl, hd 3 rfl⟩, wp_b HK2.out (op_call1 rfl rfl Tryz.call28 (rValid_rz y _ _ (hd 4 rfl)))⟩ | 6, _, _ => exact .inl ⟨⟨rfl, hd 3 rfl⟩, ⟨_, op_not rfl (hd 5 rfl), rfl⟩⟩ | 7, _, _ => exact aL ⟨_, op_pickF rfl (hd 3 rfl) (hd 6 rfl), rfl⟩ | i + 8, h, _ => omega
   intro vs X1 hb hv hal hne; replace HB := Hd.mk (bel_then HB.out hb); replace HE := Hd.mk (HE.out.to hb); have e13 : vs 13 = .bool false := hv 7 (by decide) rfl; simp only [PA, e13]; clear hv hal hne hb; go_upto_region 3 with fail
   refine wp_region_vd 3 [15, 16, 17] [] [] 51 [.bool false, .slice none 0 0] [isL [rC y], isZ y.val, qT] (by rfl) alloc_whole ?_ ?_
   ·intro i hi hA aa wx hb hs hd
    match i, hi, hA with
    | 0, _, _ => exact aL (op_ldI rfl rfl (hs 3 rfl) ((HE.out.to hb).get 1 rfl).a0) | 1, _, _ => exact aL (op_call1 rfl rfl Tryz.call30 (rOf_rz y HK2.out _ _ (hd 0 rfl))) | 2, _, _ => exact aL (wp_b HZ2.out (op_call1 rfl rfl Tryz.call29 (rZero_got y.val _ _ (hd 1 rfl) (by omega)))) | i + 3, h, _ => omega
   intro vs X2 hb hv hal hne; replace HB := Hd.mk (bel_then HB.out hb); replace HE := Hd.mk (HE.out.to hb); have e17 : vs 17 = .bool true := hv 2 (by decide) rfl; simp only [PA, e17]; clear hv hal hne hb; go_upto_region 4 with fail
   refine wp_region_vd 1 [18] [0] [] 51 [.bool false, .slice none 0 0] [isL [zC 0, zC 0]] (by rfl) alloc_whole ?_ ?_
   ·intro i hi hA aa wx hb hs hd
    match i, hi, hA with
    | 0, _, _ => exact aL (op_b0R rfl) | i + 1, h, _ => omega
   intro vs X3 hb hv hal hne; replace HB := Hd.mk (bel_then HB.out hb); replace HE := Hd.mk (HE.out.to hb); have t18 : (isL [zC 0, zC 0]).p (vs 18) X3 := hv 0 (by decide) rfl; obtain ⟨u18, y18, p18, q18, e18, c18, k18⟩ := isL_two.1 t18; simp only [PA, e18]; refine wpList_st rfl rfl rfl rfl rfl (sto_R c18 k18 (HE.out.get 2 rfl)) ?_; have HE' : Env (putAt (putAt X3 (w.heap.size + 1 + 1) 0 u18 y18) (w.heap.size + 1 + 1) 2 p18 q18) [⟨w.heap.size, 24, [rC x]⟩, ⟨w.heap.size + 1, 24, [rC y]⟩, ⟨w.heap.size + 1 + 1, 26, [zC 0, zC 0]⟩] := HE.out.put4 2 rfl c18 k18; have HB' := below_put4 (u := u18) (v := y18) (u' := p18) (v' := q18) HB.out (show w.heap.size ≤ w.heap.size + 1 + 1 from by omega); generalize putAt (putAt X3 (w.heap.size + 1 + 1) 0 u18 y18) (w.heap.size + 1 + 1) 2 p18 q18 = X4 at *; replace HE := Hd.mk HE'; replace HB := Hd.mk HB'; clear HE' HB'; clear hv hal hne hb; go_wp2_with fail
   obtain ⟨r0a, r0b, r0c, r0d, k0a, k0b, k0c, k0d, h0a, h0b⟩ := (HE.out.get 2 rfl).cells2; refine bodyPost_ret (v := .tuple #[.agg #[r0a, r0b, r0c, r0d], .int .i64 4]) (by simp [results, Tryz.results10, go_sem, k0a, k0b, k0c, k0d]) rfl ?_; exact ⟨_, rfl, HB.out, _, _, rfl, isL_two.2 ⟨_, _, _, _, rfl, h0a, h0b⟩, rfl⟩
  have e0 : nrN x y = fitn (qn x.val y.val) (qd x.val y.val) := by unfold nrN; rw [if_pos hok, if_neg hz]
  have e1 : nrD x y = fitd (qn x.val y.val) (qd x.val y.val) := by unfold nrD; rw [if_pos hok, if_neg hz]
  have e2 : nrE x y = fitc (qn x.val y.val) (qd x.val y.val) := by unfold nrE; rw [if_pos hok, if_neg hz]
  rw [e0, e1, e2]; clear e0 e1 e2; have HZ : Hd (decide (((ln y.val.natAbs : Nat) : Int) = 0) = false) := ⟨decide_eq_false (by have := ln_eq_zero (n := y.val.natAbs); omega)⟩; have HZ2 := Hd.mk (decide_eq_false hz); have HY0 : Hd (y.val ≠ 0) := ⟨hz⟩; have HL1 : Hd (ln (qn x.val y.val).natAbs ≤ 100000) := ⟨Nat.le_trans (ln_qn _ _) (by omega)⟩; have HL2 : Hd (ln (qd x.val y.val).natAbs ≤ 100000) := ⟨Nat.le_trans (ln_qd _ _) (by omega)⟩; clear hz hok; go_enter Tryz.func10, Tryz.ntmps10
  go_upto_region 1 with fail
  obtain ⟨W0, hW0⟩ : ∃ W : World, W = ((w.alloc (.cells #[u0, x0] 24)).alloc (.cells #[u1, x1] 24)).alloc (.cells #[Value.bool false, Value.slice none 0 0, Value.bool false, Value.slice none 0 0] 26) := ⟨_, rfl⟩; rw [← hW0]; obtain ⟨he, hb⟩ := env_three (cp1 p0) (cp1 p1) (cp2 (cp0 _) (cp0 _)) hW0; have HE := Hd.mk he; have HB := Hd.mk hb; clear he hb hW0; refine wp_region_vd 8 [6, 7, 8, 9, 10, 11, 12, 13] [2, 3, 6, 7] [] 51 [.bool false, .slice none 0 0] [isL [rC x], qT, qF, qF, isL [rC y], qT, qF, qF] (by rfl) alloc_whole ?_ ?_
  ·intro i hi hA aa wx hb hs hd
   match i, hi, hA with
   | 0, _, _ => exact aL (op_ldI rfl rfl (hs 2 rfl) ((HE.out.to hb).get 0 rfl).a0) | 1, _, _ => exact aL (wp_b HK1.out (op_call1 rfl rfl Tryz.call28 (rValid_rz x _ _ (hd 0 rfl)))) | 2, _, _ => exact aL ⟨_, op_not rfl (hd 1 rfl), rfl⟩ | 3, _, _ => exact aL (op_mv rfl (hd 2 rfl)) | 4, _, _ => exact .inl ⟨⟨rfl, hd 3 rfl⟩, op_ldI rfl rfl (hs 3 rfl) ((HE.out.to hb).get 1 rfl).a0⟩ | 5, _, _ => exact .inl ⟨⟨rfl, hd 3 rfl⟩, wp_b HK2.out (op_call1 rfl rfl Tryz.call28 (rValid_rz y _ _ (hd 4 rfl)))⟩ | 6, _, _ => exact .inl ⟨⟨rfl, hd 3 rfl⟩, ⟨_, op_not rfl (hd 5 rfl), rfl⟩⟩ | 7, _, _ => exact aL ⟨_, op_pickF rfl (hd 3 rfl) (hd 6 rfl), rfl⟩ | i + 8, h, _ => omega
  intro vs X1 hb hv hal hne; replace HB := Hd.mk (bel_then HB.out hb); replace HE := Hd.mk (HE.out.to hb); have e13 : vs 13 = .bool false := hv 7 (by decide) rfl; simp only [PA, e13]; clear hv hal hne hb; go_upto_region 3 with fail
  refine wp_region_vd 3 [15, 16, 17] [] [] 51 [.bool false, .slice none 0 0] [isL [rC y], isZ y.val, qF] (by rfl) alloc_whole ?_ ?_
  ·intro i hi hA aa wx hb hs hd
   match i, hi, hA with
   | 0, _, _ => exact aL (op_ldI rfl rfl (hs 3 rfl) ((HE.out.to hb).get 1 rfl).a0) | 1, _, _ => exact aL (op_call1 rfl rfl Tryz.call30 (rOf_rz y HK2.out _ _ (hd 0 rfl))) | 2, _, _ => exact aL (wp_b HZ2.out (op_call1 rfl rfl Tryz.call29 (rZero_got y.val _ _ (hd 1 rfl) (by omega)))) | i + 3, h, _ => omega
  intro vs X2 hb hv hal hne; replace HB := Hd.mk (bel_then HB.out hb); replace HE := Hd.mk (HE.out.to hb); have e17 : vs 17 = .bool false := hv 2 (by decide) rfl; simp only [PA, e17]; clear hv hal hne hb; go_upto_region 5 with fail
  refine wp_region_vs 8 [19, 20, 21, 22, 23, 24, 25, 26] [6, 7] [] 51 [.bool false, .slice none 0 0] [isL [rC x], isZ x.val, isL [rC y], isZ y.val, isL [zC (qn x.val y.val), zC (qd x.val y.val)], isP (isL [zC (fitn (qn x.val y.val) (qd x.val y.val)), zC (fitd (qn x.val y.val) (qd x.val y.val))]) (qI (fitc (qn x.val y.val) (qd x.val y.val))), isL [zC (fitn (qn x.val y.val) (qd x.val y.val)), zC (fitd (qn x.val y.val) (qd x.val y.val))], qI (fitc (qn x.val y.val) (qd x.val y.val))] (by kernel_rfl) (by kernel_rfl) (by kernel_rfl) (by rfl) alloc_whole (fun d v c a w h => by cases d <;> exact h) ?_ ?_
  ·intro i hi hA aa wx hb hs hd
   match i, hi, hA with
   | 0, _, _ => exact op_ldI rfl rfl (hs 2 rfl) ((HE.out.to hb).get 0 rfl).a0 | 1, _, _ => exact op_call1 rfl rfl Tryz.call30 (rOf_rz x HK1.out _ _ (hd 0 rfl)) | 2, _, _ => exact op_ldI rfl rfl (hs 3 rfl) ((HE.out.to hb).get 1 rfl).a0 | 3, _, _ => exact op_call1 rfl rfl Tryz.call30 (rOf_rz y HK2.out _ _ (hd 2 rfl)) | 4, _, _ => exact op_call2 rfl rfl Tryz.call32 (rRatio_got x.val y.val HY0.out (by omega) (by omega) _ _ _ (isL_isZ.2 (hd 1 rfl)) (isL_isZ.2 (hd 3 rfl))) | 5, _, _ => exact op_call1 rfl rfl Tryz.call31 (rratio_got (qn x.val y.val) (qd x.val y.val) HL1.out HL2.out _ _ (hd 4 rfl)) | 6, _, _ => exact op_fst rfl (hd 5 rfl) | 7, _, _ => exact op_snd rfl (hd 5 rfl) | i + 8, h, _ => omega
  intro vs X3 hb hv hal hne; replace HB := Hd.mk (bel_then HB.out hb); replace HE := Hd.mk (HE.out.to hb); have t25 : (isL [zC (fitn (qn x.val y.val) (qd x.val y.val)), zC (fitd (qn x.val y.val) (qd x.val y.val))]).p (vs 25) X3 := hv 6 (by decide) rfl; obtain ⟨u25, y25, p25, q25, e25, c25, k25⟩ := isL_two.1 t25; have e26 : vs 26 = .int .i64 (fitc (qn x.val y.val) (qd x.val y.val)) := hv 7 (by decide) rfl; simp only [PA, e25, e26]; refine wpList_st rfl rfl rfl rfl rfl (sto_R c25 k25 (HE.out.get 2 rfl)) ?_; have HE' : Env (putAt (putAt X3 (w.heap.size + 1 + 1) 0 u25 y25) (w.heap.size + 1 + 1) 2 p25 q25) [⟨w.heap.size, 24, [rC x]⟩, ⟨w.heap.size + 1, 24, [rC y]⟩, ⟨w.heap.size + 1 + 1, 26, [zC (fitn (qn x.val y.val) (qd x.val y.val)), zC (fitd (qn x.val y.val) (qd x.val y.val))]⟩] := HE.out.put4 2 rfl c25 k25; have HB' := below_put4 (u := u25) (v := y25) (u' := p25) (v' := q25) HB.out (show w.heap.size ≤ w.heap.size + 1 + 1 from by omega); generalize putAt (putAt X3 (w.heap.size + 1 + 1) 0 u25 y25) (w.heap.size + 1 + 1) 2 p25 q25 = X4 at *; replace HE := Hd.mk HE'; replace HB := Hd.mk HB'; clear HE' HB'; clear hv hal hne hb; go_wp2_with fail
  obtain ⟨r0a, r0b, r0c, r0d, k0a, k0b, k0c, k0d, h0a, h0b⟩ := (HE.out.get 2 rfl).cells2; refine bodyPost_ret (v := .tuple #[.agg #[r0a, r0b, r0c, r0d], .int .i64 (fitc (qn x.val y.val) (qd x.val y.val))]) (by simp [results, Tryz.results10, go_sem, k0a, k0b, k0c, k0d]) rfl ?_; exact ⟨_, rfl, HB.out, _, _, rfl, isL_two.2 ⟨_, _, _, _, rfl, h0a, h0b⟩, rfl⟩
 have e0 : nrN x y = 0 := by unfold nrN; rw [if_neg hok]
 have e1 : nrD x y = 0 := by unfold nrD; rw [if_neg hok]
 have e2 : nrE x y = 2 := by unfold nrE; rw [if_neg hok]
 rw [e0, e1, e2]; clear e0 e1 e2; have hno : (x.ok && y.ok) = false := by simpa using hok
 clear hok; by_cases hx : x.ok = true
 ·have hy : y.ok = false := by rw [hx] at hno; simpa using hno
  have HK1 := Hd.mk hx; have HK2 := Hd.mk hy; clear hx hy hno; go_enter Tryz.func10, Tryz.ntmps10
  go_upto_region 1 with fail
  obtain ⟨W0, hW0⟩ : ∃ W : World, W = ((w.alloc (.cells #[u0, x0] 24)).alloc (.cells #[u1, x1] 24)).alloc (.cells #[Value.bool false, Value.slice none 0 0, Value.bool false, Value.slice none 0 0] 26) := ⟨_, rfl⟩; rw [← hW0]; obtain ⟨he, hb⟩ := env_three (cp1 p0) (cp1 p1) (cp2 (cp0 _) (cp0 _)) hW0; have HE := Hd.mk he; have HB := Hd.mk hb; clear he hb hW0; refine wp_region_vd 8 [6, 7, 8, 9, 10, 11, 12, 13] [2, 3, 6, 7] [] 51 [.bool false, .slice none 0 0] [isL [rC x], qT, qF, qF, isL [rC y], qF, qT, qT] (by rfl) alloc_whole ?_ ?_
  ·intro i hi hA aa wx hb hs hd
   match i, hi, hA with
   | 0, _, _ => exact aL (op_ldI rfl rfl (hs 2 rfl) ((HE.out.to hb).get 0 rfl).a0) | 1, _, _ => exact aL (wp_b HK1.out (op_call1 rfl rfl Tryz.call28 (rValid_rz x _ _ (hd 0 rfl)))) | 2, _, _ => exact aL ⟨_, op_not rfl (hd 1 rfl), rfl⟩ | 3, _, _ => exact aL (op_mv rfl (hd 2 rfl)) | 4, _, _ => exact .inl ⟨⟨rfl, hd 3 rfl⟩, op_ldI rfl rfl (hs 3 rfl) ((HE.out.to hb).get 1 rfl).a0⟩ | 5, _, _ => exact .inl ⟨⟨rfl, hd 3 rfl⟩, wp_b HK2.out (op_call1 rfl rfl Tryz.call28 (rValid_rz y _ _ (hd 4 rfl)))⟩ | 6, _, _ => exact .inl ⟨⟨rfl, hd 3 rfl⟩, ⟨_, op_not rfl (hd 5 rfl), rfl⟩⟩ | 7, _, _ => exact aL ⟨_, op_pickF rfl (hd 3 rfl) (hd 6 rfl), rfl⟩ | i + 8, h, _ => omega
  intro vs X1 hb hv hal hne; replace HB := Hd.mk (bel_then HB.out hb); replace HE := Hd.mk (HE.out.to hb); have e13 : vs 13 = .bool true := hv 7 (by decide) rfl; simp only [PA, e13]; clear hv hal hne hb; go_upto_region 2 with fail
  refine wp_region_vd 1 [14] [0] [] 51 [.bool false, .slice none 0 0] [isL [zC 0, zC 0]] (by rfl) alloc_whole ?_ ?_
  ·intro i hi hA aa wx hb hs hd
   match i, hi, hA with
   | 0, _, _ => exact aL (op_b0R rfl) | i + 1, h, _ => omega
  intro vs X2 hb hv hal hne; replace HB := Hd.mk (bel_then HB.out hb); replace HE := Hd.mk (HE.out.to hb); have t14 : (isL [zC 0, zC 0]).p (vs 14) X2 := hv 0 (by decide) rfl; obtain ⟨u14, y14, p14, q14, e14, c14, k14⟩ := isL_two.1 t14; simp only [PA, e14]; refine wpList_st rfl rfl rfl rfl rfl (sto_R c14 k14 (HE.out.get 2 rfl)) ?_; have HE' : Env (putAt (putAt X2 (w.heap.size + 1 + 1) 0 u14 y14) (w.heap.size + 1 + 1) 2 p14 q14) [⟨w.heap.size, 24, [rC x]⟩, ⟨w.heap.size + 1, 24, [rC y]⟩, ⟨w.heap.size + 1 + 1, 26, [zC 0, zC 0]⟩] := HE.out.put4 2 rfl c14 k14; have HB' := below_put4 (u := u14) (v := y14) (u' := p14) (v' := q14) HB.out (show w.heap.size ≤ w.heap.size + 1 + 1 from by omega); generalize putAt (putAt X2 (w.heap.size + 1 + 1) 0 u14 y14) (w.heap.size + 1 + 1) 2 p14 q14 = X3 at *; replace HE := Hd.mk HE'; replace HB := Hd.mk HB'; clear HE' HB'; clear hv hal hne hb; go_wp2_with fail
  obtain ⟨r0a, r0b, r0c, r0d, k0a, k0b, k0c, k0d, h0a, h0b⟩ := (HE.out.get 2 rfl).cells2; refine bodyPost_ret (v := .tuple #[.agg #[r0a, r0b, r0c, r0d], .int .i64 2]) (by simp [results, Tryz.results10, go_sem, k0a, k0b, k0c, k0d]) rfl ?_; exact ⟨_, rfl, HB.out, _, _, rfl, isL_two.2 ⟨_, _, _, _, rfl, h0a, h0b⟩, rfl⟩
 have hx' : x.ok = false := by simpa using hx
 have HK1 := Hd.mk hx'; clear hx hx' hno; go_enter Tryz.func10, Tryz.ntmps10
 go_upto_region 1 with fail
 obtain ⟨W0, hW0⟩ : ∃ W : World, W = ((w.alloc (.cells #[u0, x0] 24)).alloc (.cells #[u1, x1] 24)).alloc (.cells #[Value.bool false, Value.slice none 0 0, Value.bool false, Value.slice none 0 0] 26) := ⟨_, rfl⟩; rw [← hW0]; obtain ⟨he, hb⟩ := env_three (cp1 p0) (cp1 p1) (cp2 (cp0 _) (cp0 _)) hW0; have HE := Hd.mk he; have HB := Hd.mk hb; clear he hb hW0; refine wp_region_vd 8 [6, 7, 8, 9, 10, 11, 12, 13] [2, 3, 7] [] 51 [.bool false, .slice none 0 0] [isL [rC x], qF, qT, qT, SP.any, SP.any, SP.any, qT] (by rfl) alloc_whole ?_ ?_
 ·intro i hi hA aa wx hb hs hd
  match i, hi, hA with
  | 0, _, _ => exact aL (op_ldI rfl rfl (hs 2 rfl) ((HE.out.to hb).get 0 rfl).a0) | 1, _, _ => exact aL (wp_b HK1.out (op_call1 rfl rfl Tryz.call28 (rValid_rz x _ _ (hd 0 rfl)))) | 2, _, _ => exact aL ⟨_, op_not rfl (hd 1 rfl), rfl⟩ | 3, _, _ => exact aL (op_mv rfl (hd 2 rfl)) | 4, _, _ => exact .inr ⟨⟨rfl, hd 3 rfl⟩, trivial⟩ | 5, _, _ => exact .inr ⟨⟨rfl, hd 3 rfl⟩, trivial⟩ | 6, _, _ => exact .inr ⟨⟨rfl, hd 3 rfl⟩, trivial⟩ | 7, _, _ => exact aL ⟨_, op_pickT rfl (hd 3 rfl) rfl, rfl⟩ | i + 8, h, _ => omega
 intro vs X1 hb hv hal hne; replace HB := Hd.mk (bel_then HB.out hb); replace HE := Hd.mk (HE.out.to hb); have e13 : vs 13 = .bool true := hv 7 (by decide) rfl; simp only [PA, e13]; clear hv hal hne hb; go_upto_region 2 with fail
 refine wp_region_vd 1 [14] [0] [] 51 [.bool false, .slice none 0 0] [isL [zC 0, zC 0]] (by rfl) alloc_whole ?_ ?_
 ·intro i hi hA aa wx hb hs hd
  match i, hi, hA with
  | 0, _, _ => exact aL (op_b0R rfl) | i + 1, h, _ => omega
 intro vs X2 hb hv hal hne; replace HB := Hd.mk (bel_then HB.out hb); replace HE := Hd.mk (HE.out.to hb); have t14 : (isL [zC 0, zC 0]).p (vs 14) X2 := hv 0 (by decide) rfl; obtain ⟨u14, y14, p14, q14, e14, c14, k14⟩ := isL_two.1 t14; simp only [PA, e14]; refine wpList_st rfl rfl rfl rfl rfl (sto_R c14 k14 (HE.out.get 2 rfl)) ?_; have HE' : Env (putAt (putAt X2 (w.heap.size + 1 + 1) 0 u14 y14) (w.heap.size + 1 + 1) 2 p14 q14) [⟨w.heap.size, 24, [rC x]⟩, ⟨w.heap.size + 1, 24, [rC y]⟩, ⟨w.heap.size + 1 + 1, 26, [zC 0, zC 0]⟩] := HE.out.put4 2 rfl c14 k14; have HB' := below_put4 (u := u14) (v := y14) (u' := p14) (v' := q14) HB.out (show w.heap.size ≤ w.heap.size + 1 + 1 from by omega); generalize putAt (putAt X2 (w.heap.size + 1 + 1) 0 u14 y14) (w.heap.size + 1 + 1) 2 p14 q14 = X3 at *; replace HE := Hd.mk HE'; replace HB := Hd.mk HB'; clear HE' HB'; clear hv hal hne hb; go_wp2_with fail
 obtain ⟨r0a, r0b, r0c, r0d, k0a, k0b, k0c, k0d, h0a, h0b⟩ := (HE.out.get 2 rfl).cells2; refine bodyPost_ret (v := .tuple #[.agg #[r0a, r0b, r0c, r0d], .int .i64 2]) (by simp [results, Tryz.results10, go_sem, k0a, k0b, k0c, k0d]) rfl ?_; exact ⟨_, rfl, HB.out, _, _, rfl, isL_two.2 ⟨_, _, _, _, rfl, h0a, h0b⟩, rfl⟩
set_option maxRecDepth 100000 in
set_option maxHeartbeats 1000000 in
theorem VRat_got (f : RQ) (v0 : Value) (w : World) (h0 : (isL [rC f.n, rC f.d]).p v0 w) :
  Calls Tryz.prog 11 #[v0] w (Got w (isV (.bool f.ok)).p) := by
 obtain ⟨u0, x0, y0, z0, rfl, p0, q0⟩ := isL_two.1 h0; clear h0; go_enter Tryz.func11, Tryz.ntmps11
 have HOK : Hd ([f].all RQ.ok = f.ok) := ⟨by rw [all_rq1]⟩; go_upto_region 1 with fail
 obtain ⟨W0, hW0⟩ : ∃ W : World, W = w.alloc (.cells #[u0, x0, y0, z0] 26) := ⟨_, rfl⟩; rw [← hW0]; obtain ⟨he, hb⟩ := env_one (cp2 p0 q0) hW0; have HE := Hd.mk he; have HB := Hd.mk hb; clear he hb hW0; refine wp_region_vd 3 [3, 4, 5] [] [] 51 [.bool false, .slice none 0 0] [isL [rC f.n, rC f.d], isRats [f], isV (.bool f.ok)] (by rfl) alloc_whole ?_ ?_
 ·intro i hi hA aa wx hb hs hd
  match i, hi, hA with
  | 0, _, _ => exact aL (op_ldR rfl rfl (hs 1 rfl) ((HE.out.to hb).get 0 rfl)) | 1, _, _ => exact aL (op_bsR1 rfl rfl (hd 0 rfl)) | 2, _, _ => exact aL (wp_b HOK.out (op_call1 rfl rfl Tryz.call21 (validRats_got [f] (by show 1 ≤ 2; omega) _ _ (hd 1 rfl)))) | i + 3, h, _ => omega
 intro vs X1 hb hv hal hne; replace HB := Hd.mk (bel_then HB.out hb); replace HE := Hd.mk (HE.out.to hb); have e5 : vs 5 = .bool f.ok := hv 2 (by decide) rfl; simp only [PA, e5]; clear hv hal hne hb; go_wp2_with fail
 go_ret
 exact ⟨_, rfl, HB.out, rfl⟩
set_option maxRecDepth 100000 in
set_option maxHeartbeats 1000000 in
theorem rFloorR_got (f : RQ) (v0 : Value) (w : World) (h0 : (isL [rC f.n, rC f.d]).p v0 w) :
  Calls Tryz.prog 16 #[v0] w (Got w (isP (isZ (rfn f)) (isV (.int .i64 (rfe f)))).p) := by
 obtain ⟨u0, x0, y0, z0, rfl, p0, q0⟩ := isL_two.1 h0; clear h0; by_cases hf : f.ok = true
 ·have hl := ok_lens hf p0 q0; have l1 := hl.1; have l2 := hl.2; have HOK := Hd.mk hf; have HK1 := Hd.mk (RQ.ok_n hf); have HK2 := Hd.mk (RQ.ok_d hf); have HB0 : Hd (f.d.val ≠ 0) := ⟨by have := RQ.ok_pos hf; omega⟩; have l3 : ln (f.n.val / f.d.val).natAbs ≤ 256 := Nat.le_trans (ln_mono (Int.natAbs_ediv_le_natAbs _ _)) l1; clear hl; have e1 : rfn f = f.n.val / f.d.val := if_pos hf; have e2 : rfe f = 0 := if_pos hf; rw [e1, e2]; clear e1 e2 hf; go_enter Tryz.func16, Tryz.ntmps16
  go_upto_region 1 with fail
  obtain ⟨W0, hW0⟩ : ∃ W : World, W = (w.alloc (.cells #[u0, x0, y0, z0] 26)).alloc (.cells #[Value.bool false, Value.slice none 0 0] 24) := ⟨_, rfl⟩; rw [← hW0]; obtain ⟨he, hb⟩ := env_two (cp2 p0 q0) (cp1 (cp0 _)) hW0; have HE := Hd.mk he; have HB := Hd.mk hb; clear he hb hW0; refine wp_region_vd 3 [6, 7, 8] [2] [] 51 [.bool false, .slice none 0 0] [isL [rC f.n, rC f.d], qT, qF] (by rfl) alloc_whole ?_ ?_
  ·intro i hi hA aa wx hb hs hd
   match i, hi, hA with
   | 0, _, _ => exact aL (op_ldR rfl rfl (hs 1 rfl) ((HE.out.to hb).get 0 rfl)) | 1, _, _ => exact aL (wp_b HOK.out (op_call1 rfl rfl Tryz.call12 (ValidRat_got f _ _ (hd 0 rfl)))) | 2, _, _ => exact aL ⟨_, op_not rfl (hd 1 rfl), rfl⟩ | i + 3, h, _ => omega
  intro vs X1 hb hv hal hne; replace HB := Hd.mk (bel_then HB.out hb); replace HE := Hd.mk (HE.out.to hb); have e8 : vs 8 = .bool false := hv 2 (by decide) rfl; simp only [PA, e8]; clear hv hal hne hb; go_upto_region 3 with fail
  refine wp_region_vs 12 [11, 12, 13, 14, 15, 16, 17, 10, 18, 19, 4, 5] [0, 3, 7, 8, 9] [10, 11] 61 [.bool false, .slice none 0 0] [isV (.pointer (some ⟨w.heap.size, 0, none⟩)), isL [rC f.n], isZ f.n.val, isV (.pointer (some ⟨w.heap.size, 2, none⟩)), isL [rC f.d], isZ f.d.val, isZZ (f.n.val / f.d.val) (f.n.val % f.d.val), isZZ (f.n.val / f.d.val) (f.n.val % f.d.val), isZ (f.n.val / f.d.val), isZ (f.n.val % f.d.val), SP.any, SP.any] (by kernel_rfl) (by kernel_rfl) (by kernel_rfl) (by rfl) alloc_Z (fun d v c a w h => by cases d <;> exact h) ?_ ?_
  ·intro i hi hA aa wx hb hs hd
   match i, hi, hA with
   | 0, _, _ => exact ⟨_, op_faR0 rfl (hs 1 rfl), rfl⟩ | 1, _, _ => exact op_ldI rfl rfl (hd 0 rfl) ((HE.out.to hb).get 0 rfl).a0 | 2, _, _ => exact op_call1 rfl rfl Tryz.call30 (rOf_rz f.n HK1.out _ _ (hd 1 rfl)) | 3, _, _ => exact ⟨_, op_faR1 rfl (hs 1 rfl), rfl⟩ | 4, _, _ => exact op_ldI rfl rfl (hd 3 rfl) ((HE.out.to hb).get 0 rfl).a2 | 5, _, _ => exact op_call1 rfl rfl Tryz.call30 (rOf_rz f.d HK2.out _ _ (hd 4 rfl)) | 6, _, _ => exact op_call2 rfl rfl Tryz.call41 (rOver_got f.n.val f.d.val HB0.out _ _ _ (hd 2 rfl) (hd 5 rfl) (by omega) (by omega)) | 7, _, _ => exact op_mv rfl (hd 6 rfl) | 8, _, _ => exact zz_fst rfl (hd 7 rfl) | 9, _, _ => exact zz_snd rfl (hd 7 rfl) | 10, _, h => cases h | 11, _, h => cases h | i + 12, h, _ => omega
  intro vs X2 hb hv hal hne; have HL0 := Hd.mk (HE.out.lt); have HBW := HB; replace HB := Hd.mk (bel_then HB.out hb); replace HE := Hd.mk (HE.out.to hb); obtain ⟨g4, e4, l4, b4⟩ : ∃ g, vs 4 = .pointer (some ⟨g, 0, none⟩) ∧ _ := hal 10 rfl; have t18 : (isZ (f.n.val / f.d.val)).p (vs 18) X2 := hv 8 (by decide) rfl; obtain ⟨u18, y18, e18, c18⟩ := isL_one.1 (isL_isZ.2 t18); obtain ⟨g5, e5, l5, b5⟩ : ∃ g, vs 5 = .pointer (some ⟨g, 0, none⟩) ∧ _ := hal 11 rfl; have t19 : (isZ (f.n.val % f.d.val)).p (vs 19) X2 := hv 9 (by decide) rfl; obtain ⟨u19, y19, e19, c19⟩ := isL_one.1 (isL_isZ.2 t19); simp only [PA, e4, e18, e5, e19]; replace HE : Hd (Env X2 [⟨w.heap.size, 26, [rC f.n, rC f.d]⟩, ⟨w.heap.size + 1, 24, [zC 0]⟩, ⟨g4, 61, [aC]⟩]) := ⟨Env.addne (e := ⟨g4, 61, [aC]⟩) HE.out ⟨_, b4, cp1 (cpz _)⟩ (fun e' he => Nat.ne_of_lt (Nat.lt_of_lt_of_le (HL0.out e' he) l4))⟩; have G4 : Hd (w.heap.size ≤ g4) := ⟨Nat.le_trans HBW.out.size l4⟩; clear l4 b4; replace HE : Hd (Env X2 [⟨w.heap.size, 26, [rC f.n, rC f.d]⟩, ⟨w.heap.size + 1, 24, [zC 0]⟩, ⟨g4, 61, [aC]⟩, ⟨g5, 61, [aC]⟩]) := ⟨Env.addne (e := ⟨g5, 61, [aC]⟩) HE.out ⟨_, b5, cp1 (cpz _)⟩ (fun e' he => (List.mem_append.1 (show e' ∈ _ ++ [_] from he)).elim (fun he => Nat.ne_of_lt (Nat.lt_of_lt_of_le (HL0.out e' he) l5)) (fun he => by rw [List.mem_singleton.1 he]; exact ptr_ne (by rw [← e4, ← e5]; exact hne 10 11 rfl rfl (by decide))))⟩; have G5 : Hd (w.heap.size ≤ g5) := ⟨Nat.le_trans HBW.out.size l5⟩; clear l5 b5; clear HL0 HBW e4 e5; refine wpList_st rfl rfl rfl rfl rfl (sto_Z c18 (Slot.one _) (HE.out.get 2 rfl)) ?_; have HE' : Env (putAt X2 g4 0 u18 y18) [⟨w.heap.size, 26, [rC f.n, rC f.d]⟩, ⟨w.heap.size + 1, 24, [zC 0]⟩, ⟨g4, 61, [zC (f.n.val / f.d.val)]⟩, ⟨g5, 61, [aC]⟩] := HE.out.put1 2 rfl c18; have HB' := below_putAt (o := 0) (u := u18) (v := y18) HB.out (show w.heap.size ≤ g4 from G4.out); replace c19 := cp_at c19 (u := u18) (v := y18) (Slot.one _) (HE.out.get 2 rfl); generalize putAt X2 g4 0 u18 y18 = X3 at *; replace HE := Hd.mk HE'; replace HB := Hd.mk HB'; clear HE' HB'; refine wpList_st rfl rfl rfl rfl rfl (sto_Z c19 (Slot.one _) (HE.out.get 3 rfl)) ?_; have HE' : Env (putAt X3 g5 0 u19 y19) [⟨w.heap.size, 26, [rC f.n, rC f.d]⟩, ⟨w.heap.size + 1, 24, [zC 0]⟩, ⟨g4, 61, [zC (f.n.val / f.d.val)]⟩, ⟨g5, 61, [zC (f.n.val % f.d.val)]⟩] := HE.out.put1 3 rfl c19; have HB' := below_putAt (o := 0) (u := u19) (v := y19) HB.out (show w.heap.size ≤ g5 from G5.out); generalize putAt X3 g5 0 u19 y19 = X4 at *; replace HE := Hd.mk HE'; replace HB := Hd.mk HB'; clear HE' HB'; clear hv hal hne hb; go_upto_region 4 with fail
  refine wp_region_vd 2 [20, 21] [] [] 51 [.bool false, .slice none 0 0] [isZ (f.n.val / f.d.val), isZ (f.n.val / f.d.val)] (by rfl) alloc_whole ?_ ?_
  ·intro i hi hA aa wx hb hs hd
   match i, hi, hA with
   | 0, _, _ => exact aL (op_ldZz rfl rfl (hs 4 rfl) ((HE.out.to hb).get 2 rfl).a0) | 1, _, _ => exact aL (op_call1 rfl rfl Tryz.call42 (rInt_got (f.n.val / f.d.val) _ _ (hd 0 rfl))) | i + 2, h, _ => omega
  intro vs X5 hb hv hal hne; replace HB := Hd.mk (bel_then HB.out hb); replace HE := Hd.mk (HE.out.to hb); have t21 : (isZ (f.n.val / f.d.val)).p (vs 21) X5 := hv 1 (by decide) rfl; obtain ⟨u21, y21, e21, c21⟩ := isL_one.1 (isL_isZ.2 t21); simp only [PA, e21]; refine wpList_st rfl rfl rfl rfl rfl (sto_I c21 (Slot.one _) (HE.out.get 1 rfl)) ?_; have HE' : Env (putAt X5 (w.heap.size + 1) 0 u21 y21) [⟨w.heap.size, 26, [rC f.n, rC f.d]⟩, ⟨w.heap.size + 1, 24, [zC (f.n.val / f.d.val)]⟩, ⟨g4, 61, [zC (f.n.val / f.d.val)]⟩, ⟨g5, 61, [zC (f.n.val % f.d.val)]⟩] := HE.out.put1 1 rfl c21; have HB' := below_putAt (o := 0) (u := u21) (v := y21) HB.out (show w.heap.size ≤ w.heap.size + 1 from by omega); generalize putAt X5 (w.heap.size + 1) 0 u21 y21 = X6 at *; replace HE := Hd.mk HE'; replace HB := Hd.mk HB'; clear HE' HB'; clear hv hal hne hb; go_wp2_with fail
  obtain ⟨r0a, r0b, k0a, k0b, h0a⟩ := (HE.out.get 1 rfl).cells1; refine bodyPost_ret (v := .tuple #[.agg #[r0a, r0b], .int .i64 0]) (by simp [results, Tryz.results16, go_sem, k0a, k0b]) rfl ?_; exact ⟨_, rfl, HB.out, _, _, rfl, isL_isZ.1 (isL_one.2 ⟨_, _, rfl, h0a⟩), rfl⟩
 have hf' : f.ok = false := by simpa using hf
 have HOK := Hd.mk hf'; have e1 : rfn f = 0 := if_neg hf; have e2 : rfe f = 2 := if_neg hf; rw [e1, e2]; clear e1 e2 hf hf'; go_enter Tryz.func16, Tryz.ntmps16
 go_upto_region 1 with fail
 obtain ⟨W0, hW0⟩ : ∃ W : World, W = (w.alloc (.cells #[u0, x0, y0, z0] 26)).alloc (.cells #[Value.bool false, Value.slice none 0 0] 24) := ⟨_, rfl⟩; rw [← hW0]; obtain ⟨he, hb⟩ := env_two (cp2 p0 q0) (cp1 (cp0 _)) hW0; have HE := Hd.mk he; have HB := Hd.mk hb; clear he hb hW0; refine wp_region_vd 3 [6, 7, 8] [2] [] 51 [.bool false, .slice none 0 0] [isL [rC f.n, rC f.d], qF, qT] (by rfl) alloc_whole ?_ ?_
 ·intro i hi hA aa wx hb hs hd
  match i, hi, hA with
  | 0, _, _ => exact aL (op_ldR rfl rfl (hs 1 rfl) ((HE.out.to hb).get 0 rfl)) | 1, _, _ => exact aL (wp_b HOK.out (op_call1 rfl rfl Tryz.call12 (ValidRat_got f _ _ (hd 0 rfl)))) | 2, _, _ => exact aL ⟨_, op_not rfl (hd 1 rfl), rfl⟩ | i + 3, h, _ => omega
 intro vs X1 hb hv hal hne; replace HB := Hd.mk (bel_then HB.out hb); replace HE := Hd.mk (HE.out.to hb); have e8 : vs 8 = .bool true := hv 2 (by decide) rfl; simp only [PA, e8]; clear hv hal hne hb; go_upto_region 2 with fail
 refine wp_region_vd 1 [9] [0] [] 51 [.bool false, .slice none 0 0] [isZ 0] (by rfl) alloc_whole ?_ ?_
 ·intro i hi hA aa wx hb hs hd
  match i, hi, hA with
  | 0, _, _ => exact aL (op_b0I rfl) | i + 1, h, _ => omega
 intro vs X2 hb hv hal hne; replace HB := Hd.mk (bel_then HB.out hb); replace HE := Hd.mk (HE.out.to hb); have t9 : (isZ 0).p (vs 9) X2 := hv 0 (by decide) rfl; obtain ⟨u9, y9, e9, c9⟩ := isL_one.1 (isL_isZ.2 t9); simp only [PA, e9]; refine wpList_st rfl rfl rfl rfl rfl (sto_I c9 (Slot.one _) (HE.out.get 1 rfl)) ?_; have HE' : Env (putAt X2 (w.heap.size + 1) 0 u9 y9) [⟨w.heap.size, 26, [rC f.n, rC f.d]⟩, ⟨w.heap.size + 1, 24, [zC 0]⟩] := HE.out.put1 1 rfl c9; have HB' := below_putAt (o := 0) (u := u9) (v := y9) HB.out (show w.heap.size ≤ w.heap.size + 1 from by omega); generalize putAt X2 (w.heap.size + 1) 0 u9 y9 = X3 at *; replace HE := Hd.mk HE'; replace HB := Hd.mk HB'; clear HE' HB'; clear hv hal hne hb; go_wp2_with fail
 obtain ⟨r0a, r0b, k0a, k0b, h0a⟩ := (HE.out.get 1 rfl).cells1; refine bodyPost_ret (v := .tuple #[.agg #[r0a, r0b], .int .i64 2]) (by simp [results, Tryz.results16, go_sem, k0a, k0b]) rfl ?_; exact ⟨_, rfl, HB.out, _, _, rfl, isL_isZ.1 (isL_one.2 ⟨_, _, rfl, h0a⟩), rfl⟩
theorem itoa_no47 (z : Int) : ∀ c ∈ Go.Lib.itoa z, c ≠ 47 := by
 have hk : ∀ m : Nat, ∀ c ∈ Go.Lib.decDigits m, c ≠ 47 := by
  intro m c hc e; have h := List.all_eq_true.1 (dec_back m).1 c hc; rw [e] at h; exact absurd h (by decide)
 unfold Go.Lib.itoa; intro c hc; split at hc
 ·rcases List.mem_cons.1 hc with rfl | h
  ·decide
  exact hk _ c h
 exact hk _ c hc
theorem cutL_no : ∀ {l : List UInt8}, (∀ c ∈ l, c ≠ 47) → cutL l = (l, [], false)
 | [], _ => rfl
 | c :: t, h => by
  have h1 := cutL_no (l := t) (fun x hx => h x (List.mem_cons_of_mem _ hx)); rw [cutL, if_neg (h c (List.mem_cons_self ..)), h1]
theorem cutL_at : ∀ {a : List UInt8} (b : List UInt8), (∀ c ∈ a, c ≠ 47) → cutL (a ++ 47 :: b) = (a, b, true)
 | [], b, _ => by rw [List.nil_append, cutL, if_pos rfl]
 | c :: t, b, h => by
  have h1 := cutL_at (a := t) b (fun x hx => h x (List.mem_cons_of_mem _ hx)); rw [List.cons_append, cutL, if_neg (h c (List.mem_cons_self ..)), h1]
theorem rp_back {n d : Int} (h1 : ln n.natAbs ≤ 256) (h2 : ln d.natAbs ≤ 256) (hd : 0 < d) (hg : Nat.gcd n.natAbs d.natAbs = 1) : rpOk (qS n d) = true ∧ rpN (qS n d) = n ∧ rpD (qS n d) = d := by
 obtain ⟨a1, a2⟩ := spl_itoa h1; obtain ⟨b1, b2⟩ := spl_itoa h2; by_cases e : d = 1
 ·have hc : cutL (qS n d) = (Go.Lib.itoa n, [], false) := by
   unfold qS; rw [if_pos e, List.append_nil]; exact cutL_no (itoa_no47 n)
  have hB : rpB (qS n d) = [49] := by unfold rpB; rw [hc]; rfl
  have hN : rpN (qS n d) = n := by unfold rpN; rw [hc]; exact a1
  have hD : rpD (qS n d) = d := by unfold rpD; rw [hB, e]; exact one_str.1
  have hE1 : rpEN (qS n d) = 0 := by unfold rpEN; rw [hc]; exact a2
  have hE2 : rpED (qS n d) = 0 := by unfold rpED; rw [hB]; exact one_str.2
  refine ⟨?_, hN, hD⟩; unfold rpOk; rw [hE1, hE2, hN, hD, hc, decide_eq_true hd, decide_eq_true hg]; rfl
 have hc : cutL (qS n d) = (Go.Lib.itoa n, Go.Lib.itoa d, true) := by
  unfold qS; rw [if_neg e]; exact cutL_at _ (itoa_no47 n)
 have hB : rpB (qS n d) = Go.Lib.itoa d := by unfold rpB; rw [hc]; rfl
 have hN : rpN (qS n d) = n := by unfold rpN; rw [hc]; exact a1
 have hD : rpD (qS n d) = d := by unfold rpD; rw [hB]; exact b1
 have hE1 : rpEN (qS n d) = 0 := by unfold rpEN; rw [hc]; exact a2
 have hE2 : rpED (qS n d) = 0 := by unfold rpED; rw [hB]; exact b2
 have h49 : decide (Go.Lib.itoa d = [49]) = false := decide_eq_false (fun h => e ((itoa_one hd).1 h)); refine ⟨?_, hN, hD⟩; unfold rpOk; rw [hE1, hE2, hN, hD, hc, decide_eq_true hd, decide_eq_true hg]; simp only [h49]; rfl
theorem rq_back {p : RQ} {u v x y : Value} {w : World} (h : p.ok = true) (h1 : (rC p.n).p u v w) (h2 : (rC p.d).p x y w) : rqN (qpS p) = p.n.val ∧ rqD (qpS p) = p.d.val ∧ rqE (qpS p) = 0 := by
 obtain ⟨l1, l2⟩ := ok_lens h h1 h2
 have hg : Nat.gcd p.n.val.natAbs p.d.val.natAbs = 1 := by
  have := RQ.ok_gcd h; rwa [Int.gcd_eq_natAbs_gcd_natAbs] at this
 obtain ⟨e1, e2, e3⟩ := rp_back l1 l2 (RQ.ok_pos h) hg; have e : qpS p = qS p.n.val p.d.val := if_pos h; rw [e]; unfold rqN rqD rqE; rw [if_pos e1, if_pos e1, if_pos e1]; exact ⟨e2, e3, rfl⟩
theorem qpS_len {p : RQ} {u v x y : Value} {w : World} (h1 : (rC p.n).p u v w) (h2 : (rC p.d).p x y w) : (qpS p).length ≤ 140737488355328 := by
 unfold qpS; split
 ·rename_i h
  obtain ⟨l1, l2⟩ := ok_lens h h1 h2; have k1 := itoa_len l1; have k2 := itoa_len l2; unfold qS; split
  ·simp; omega
  simp; omega
 simp
theorem RatPrint_got (f : RQ) (v0 : Value) (w : World) (h0 : (isL [rC f.n, rC f.d]).p v0 w) :
  Calls Tryz.prog 13 #[v0] w (Got w (isP (isV (.string ⟨(qpS f).toArray⟩)) (isV (.int .i64 (qpE f)))).p) := by
 obtain ⟨_, _, _, _, rfl, ⟨rfl, rfl, p⟩, ⟨rfl, rfl, q⟩⟩ := isL_two.1 h0; refine (RatPrint_calls f w ⟨p, q⟩).mono fun e w' h => ?_
 obtain ⟨rfl, hb⟩ := h; exact ⟨_, rfl, hb, _, _, rfl, rfl, rfl⟩
theorem rRatPrint_got (f : RQ) (v0 : Value) (w : World) (ht : Tab w) (h0 : (isL [rC f.n, rC f.d]).p v0 w) :
  Calls Tryz.prog 14 #[v0] w (Got w (isP (isV (.string ⟨(qpS f).toArray⟩)) (isV (.int .i64 (qpE f)))).p) := by
 obtain ⟨_, _, _, _, rfl, ⟨rfl, rfl, p⟩, ⟨rfl, rfl, q⟩⟩ := isL_two.1 h0; refine (rRatPrint_calls f w ⟨p, q⟩ ht).mono fun e w' h => ?_
 obtain ⟨rfl, hb⟩ := h; exact ⟨_, rfl, hb, _, _, rfl, rfl, rfl⟩
theorem RatParse_got (l : List UInt8) (hl : l.length ≤ 140737488355328) (v0 : Value) (w : World) (h0 : (isV (.string ⟨l.toArray⟩)).p v0 w) :
  Calls Tryz.prog 5 #[v0] w (Got w (isP (isL [zC (rqN l), zC (rqD l)]) (isV (.int .i64 (rqE l)))).p) := by
 obtain rfl : v0 = .string ⟨l.toArray⟩ := h0; refine (RatParse_calls l w hl).mono fun e w' h => ?_
 obtain ⟨A1, c1, A2, c2, rfl, h1, h2, hb⟩ := h; exact ⟨_, rfl, hb, _, _, rfl, isL_two.2 ⟨_, _, _, _, rfl, ⟨A1, c1, rfl, rfl, h1⟩, ⟨A2, c2, rfl, rfl, h2⟩⟩, rfl⟩
theorem SameRat_rz (p : RQ) (ho : p.ok = true) {n d : Int} (hn : n = p.n.val) (hd : d = p.d.val) (v0 v1 : Value) (w : World) (h0 : (isL [rC p.n, rC p.d]).p v0 w) (h1 : (isL [zC n, zC d]).p v1 w) :
  Calls Tryz.prog 7 #[v0, v1] w (Got w (isV (.bool true)).p) := by
 subst hn hd; exact SameRat_got _ _ _ _ _ (rz_two ho h0) h1
theorem awake_got (w : World) : Calls Tryz.prog 8 #[] w (Got w (isV (.bool true)).p) := (awake_calls w).mono fun e w' h => ⟨_, h.1, h.2, rfl⟩
section
variable {w : World} {g : Nat} {t : TypeId}
theorem lift_two {n d : Int} (h : HL w g t [zC n, zC d]) : ∃ q : RQ, HL w g t [rC q.n, rC q.d] := by
 obtain ⟨u, v, x, y, hb, ⟨A1, c1, rfl, rfl, k1⟩, ⟨A2, c2, rfl, rfl, k2⟩⟩ := h.two; exact ⟨qN n A1 c1 d A2 c2, HL.mk2 hb ⟨rfl, rfl, rawN_at k1⟩ ⟨rfl, rfl, rawN_at k2⟩⟩
theorem Env.swap : ∀ {L : List Ent} (i : Nat) {g : Nat} {t : TypeId} {l l' : List CP}, Env w L → L[i]? = some ⟨g, t, l⟩ → HL w g t l' → Env w (L.set i ⟨g, t, l'⟩)
 | e :: L, 0, g, t, l, l', ⟨h1, h2, h3⟩, hi, hk => by
  obtain rfl : e = ⟨g, t, l⟩ := by simpa using hi
  exact ⟨hk, h2, h3⟩
 | e :: L, i + 1, g, t, l, l', ⟨h1, h2, h3⟩, hi, hk => by
  have hi' : L[i]? = some ⟨g, t, l⟩ := by simpa using hi
  refine ⟨h1, ?_, Env.swap i h3 hi' hk⟩; intro e' he'; rcases List.mem_or_eq_of_mem_set he' with h | rfl
  ·exact h2 e' h
  exact (show g ≠ e.g from h2 ⟨g, t, l⟩ (List.mem_of_getElem? hi'))
end
section
variable {Q : Exit → Act → World → Prop} {o : Oper} {a : Act} {w : World} {d : Nat} {x y : Operand} {ty : TypeId} {k n : Int}
theorem op_len2 {q f : RQ} (ho : o.op = .call { callee := .builtin .len, args := #[x], argTypes := #[35] }) (hd : o.dst = some d) (hx : (isRats [q, f]).p (a.eval x) w) : o.wp Tryz.prog a w (Post a w d (isV (.int .i64 2)).p) Q := by
 obtain ⟨g, e, _⟩ := hx; refine op_run (v := .int .i64 2) hd ?_ rfl; generalize a.eval = ev at e ⊢; unfold execOp; simp only [ho]; simp [go_sem, e]
theorem op_neqSE (ho : o.op = .binOp .neq 27 x y ty) (hx : a.eval x = .int .i64 k) (hy : a.eval y = .int .i64 k) (w : World) : (execOp a.eval o).run Tryz.prog w = .ok (.value (.bool false)) w := by
 generalize a.eval = ev at hx hy ⊢; unfold execOp; simp only [ho, hx, hy]; simp [go_sem]
theorem op_eqlcE (ho : o.op = .binOp .eql 27 x (.const (.int .i64 n)) ty) (hx : a.eval x = .int .i64 k) (w : World) : (execOp a.eval o).run Tryz.prog w = .ok (.value (.bool (decide (k = n)))) w := by
 have hc : a.eval (.const (.int .i64 n)) = .int .i64 n := rfl; generalize a.eval = ev at hx hc ⊢; unfold execOp; simp only [ho, hx, hc]; simp [go_sem]; rfl
theorem op_neqcE (ho : o.op = .binOp .neq 27 x (.const (.int .i64 n)) ty) (hx : a.eval x = .int .i64 k) (w : World) : (execOp a.eval o).run Tryz.prog w = .ok (.value (.bool (!decide (k = n)))) w := by
 have hc : a.eval (.const (.int .i64 n)) = .int .i64 n := rfl; generalize a.eval = ev at hx hc ⊢; unfold execOp; simp only [ho, hx, hc]; simp [go_sem]; rfl
theorem op_neqSB {b : Bool} (ho : o.op = .binOp .neq 4 x y ty) (hx : a.eval x = .bool b) (hy : a.eval y = .bool b) (w : World) : (execOp a.eval o).run Tryz.prog w = .ok (.value (.bool false)) w := by
 generalize a.eval = ev at hx hy ⊢; unfold execOp; simp only [ho, hx, hy]; simp [go_sem]
theorem op_neqSS {b : ByteArray} (ho : o.op = .binOp .neq 9 x y ty) (hx : a.eval x = .string b) (hy : a.eval y = .string b) (w : World) : (execOp a.eval o).run Tryz.prog w = .ok (.value (.bool false)) w := by
 generalize a.eval = ev at hx hy ⊢; unfold execOp; simp only [ho, hx, hy]; simp [go_sem]
end
end Go.Proofs.YtdfhhceboacdcaaGreatDoor
