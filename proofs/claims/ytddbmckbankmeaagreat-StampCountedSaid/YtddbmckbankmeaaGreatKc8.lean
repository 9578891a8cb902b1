/- Part 8 of the texts behind this claim. -/
import Derived.Maps.OwnOps
import Derived.Maps.Views
import Derived.Maps.OwnSet
import Derived.WideKeyArgs2
import Derived.DeepKeys4
import Derived.MapViews
import Derived.ChangeSame
import Derived.Lib.SmallJoins
import Derived.Test.YtddbmckbankmeaaGreatKc7
set_option linter.unusedVariables false
set_option linter.unusedSimpArgs false
namespace Go.Proofs.YtddbmckbankmeaaGreat
open Go.RowKit
theorem isNaN_x (x : Int) (w : World) : Calls Tryz.prog 98 #[.int .i64 x] w fun e w' => e = .returned (.bool false) ∧ w' = w := by
 go_enter Tryz.func98, Tryz.ntmps98
 go_wp2_with fail
 go_ret
 simp
set_option maxHeartbeats 1000000 in
theorem Compare_x (x y : Int) (w : World) : Calls Tryz.prog 70 #[.int .i64 x, .int .i64 y] w fun e w' => e = .returned (.int .i64 (cmpI x y)) ∧ w' = w := by
 have hn := isNaN_x; unfold cmpI; go_enter Tryz.func70, Tryz.ntmps70
 by_cases h1 : x < y
 ·rw [if_pos h1]; go_wp2_with (go_at_call 98; refine (hn _ _).mono ?_; rintro e w' ⟨rfl, rfl⟩)
  go_ret
  simp
 rw [if_neg h1]; by_cases h2 : y < x
 ·rw [if_pos h2]; go_wp2_with (go_at_call 98; refine (hn _ _).mono ?_; rintro e w' ⟨rfl, rfl⟩)
  go_ret
  simp
 rw [if_neg h2]; go_wp2_with (go_at_call 98; refine (hn _ _).mono ?_; rintro e w' ⟨rfl, rfl⟩)
 go_ret
 simp
set_option maxHeartbeats 1000000 in
theorem Or_x (A : Option Addr) (k : Nat) (xs : List Int) (w : World) (hri : RI w A xs) (hln : xs.length ≤ 140737488351232) :
  Calls Tryz.prog 69 #[.slice A xs.length k] w fun e w' => e = .returned (.int .i64 (orL xs)) ∧ w' = w := by
 have HRI := Hd.mk hri; clear hri; go_enter Tryz.func69, Tryz.ntmps69
 go_wp2
 go_loop [8] (fun v => ∃ j : Nat, j ≤ xs.length ∧ v = .int .i64 j ∧ ∀ i : Nat, i < j → xs.getD i 0 = 0) (fun v => xs.length - (intOf v).toNat)
 case atStart => exact ⟨0, Nat.zero_le _, rfl, fun i hi => by omega⟩
 case round =>
  obtain ⟨j, hjl, rfl, hz⟩ := hrel; have HZ := Hd.mk hz; clear hz; by_cases hj : j < xs.length
  ·obtain ⟨ad, rfl, hcell⟩ := HRI.out.at_ hj; by_cases h0 : xs.getD j 0 = 0
   ·rw [h0] at hcell; have H0 := Hd.mk h0; clear h0; go_wp2
    go_round
    case rel =>
     refine ⟨j + 1, by omega, by go_num, fun i hi => ?_⟩; by_cases e : i = j
     ·rw [e]; exact H0.out
     exact HZ.out i (by omega)
    case measure => simp [intOf]; omega
   have HOR := Hd.mk (orL_hit xs j HZ.out hj h0); have hne : (xs.getD j 0 == 0) = false := by rw [beq_eq_false_iff_ne]; exact h0
   clear h0; generalize xs.getD j 0 = x at hcell hne HOR; go_wp2
   go_ret
   exact ⟨by rw [HOR.out]; rfl, rfl⟩
  have e1 : j = xs.length := by omega
  have HOR := Hd.mk (orL_none xs (by rw [← e1]; exact HZ.out)); go_wp2
  go_ret
  exact ⟨by rw [HOR.out]; rfl, rfl⟩
def cmpL : List Int → List Int → Int
 | [], [] => 0
 | [], _ :: _ => -1
 | _ :: _, [] => 1
 | x :: xs, y :: ys => if cmpI x y = 0 then cmpL xs ys else cmpI x y
theorem cmpI_zero {x y : Int} : cmpI x y = 0 ↔ x = y := by
 unfold cmpI; split
 ·omega
 split <;> omega
theorem cmpL_drop : ∀ (j : Nat) (xs ys : List Int), j ≤ xs.length → j ≤ ys.length → (∀ i : Nat, i < j → xs.getD i 0 = ys.getD i 0) → cmpL xs ys = cmpL (xs.drop j) (ys.drop j)
 | 0, _, _, _, _, _ => rfl
 | j + 1, [], _, h, _, _ => absurd h (by simp)
 | j + 1, _ :: _, [], _, h, _ => absurd h (by simp)
 | j + 1, x :: xs, y :: ys, h1, h2, h => by
  have h0 : x = y := by simpa using h 0 (by omega)
  rw [List.drop_succ_cons, List.drop_succ_cons, ← cmpL_drop j xs ys (by simpa using h1) (by simpa using h2) (fun i hi => by simpa using h (i + 1) (by omega)), cmpL, if_pos (cmpI_zero.2 h0)]
theorem cmpL_hit (xs ys : List Int) (j : Nat) (h : ∀ i : Nat, i < j → xs.getD i 0 = ys.getD i 0) (hj : j < xs.length) (hk : j < ys.length) (hne : cmpI (xs.getD j 0) (ys.getD j 0) ≠ 0) : cmpL xs ys = cmpI (xs.getD j 0) (ys.getD j 0) := by
 rw [cmpL_drop j xs ys (by omega) (by omega) h, List.drop_eq_getElem_cons hj, List.drop_eq_getElem_cons hk, cmpL]; rw [List.getD_eq_getElem?_getD, List.getElem?_eq_getElem hj, List.getD_eq_getElem?_getD, List.getElem?_eq_getElem hk] at hne ⊢; exact if_neg hne
theorem cmpL_more (xs ys : List Int) (h : ∀ i : Nat, i < ys.length → xs.getD i 0 = ys.getD i 0) (hl : ys.length < xs.length) : cmpL xs ys = 1 := by
 rw [cmpL_drop ys.length xs ys (by omega) (by omega) h, List.drop_length, List.drop_eq_getElem_cons hl, cmpL]
theorem cmpL_less (xs ys : List Int) (h : ∀ i : Nat, i < xs.length → xs.getD i 0 = ys.getD i 0) (hl : xs.length < ys.length) : cmpL xs ys = -1 := by
 rw [cmpL_drop xs.length xs ys (by omega) (by omega) h, List.drop_length, List.drop_eq_getElem_cons hl, cmpL]
theorem cmpL_same (xs ys : List Int) (h : ∀ i : Nat, i < xs.length → xs.getD i 0 = ys.getD i 0) (hl : xs.length = ys.length) : cmpL xs ys = 0 := by
 rw [cmpL_drop xs.length xs ys (by omega) (by omega) h, List.drop_length, hl, List.drop_length, cmpL]
set_option maxHeartbeats 2000000 in
theorem CompareL_x (A C : Option Addr) (k l : Nat) (xs ys : List Int) (w : World) (hra : RI w A xs) (hrc : RI w C ys) (hla : xs.length ≤ 140737488351232) (hlc : ys.length ≤ 140737488351232) :
  Calls Tryz.prog 71 #[.slice A xs.length k, .slice C ys.length l] w fun e w' => e = .returned (.int .i64 (cmpL xs ys)) ∧ w' = w := by
 have HRA := Hd.mk hra; have HRC := Hd.mk hrc; clear hra hrc; have hc := Compare_x; go_enter Tryz.func71, Tryz.ntmps71
 go_wp2
 go_loop [11] (fun v => ∃ j : Nat, j ≤ xs.length ∧ j ≤ ys.length ∧ v = .int .i64 j ∧ ∀ i : Nat, i < j → xs.getD i 0 = ys.getD i 0) (fun v => xs.length - (intOf v).toNat)
 case atStart => exact ⟨0, Nat.zero_le _, Nat.zero_le _, rfl, fun i hi => by omega⟩
 case round =>
  obtain ⟨j, hjl, hjm, rfl, hz⟩ := hrel; have HZ := Hd.mk hz; clear hz; by_cases hj : j < xs.length
  ·obtain ⟨ad, rfl, hcell⟩ := HRA.out.at_ hj; by_cases hk : j < ys.length
   ·obtain ⟨bd, rfl, hcell2⟩ := HRC.out.at_ hk; by_cases h0 : cmpI (xs.getD j 0) (ys.getD j 0) = 0
    ·have H0 := Hd.mk h0; clear h0; generalize hx : xs.getD j 0 = x at hcell; generalize hy : ys.getD j 0 = y at hcell2; have hcx := hc x y; rw [show cmpI x y = 0 by rw [← hx, ← hy]; exact H0.out] at hcx; clear hx hy; go_wp2_with (go_at_call 70; refine (hcx _).mono ?_; rintro e w' ⟨rfl, rfl⟩)
     go_round
     case rel =>
      refine ⟨j + 1, by omega, by omega, by go_num, fun i hi => ?_⟩; by_cases e : i = j
      ·rw [e]; exact cmpI_zero.1 H0.out
      exact HZ.out i (by omega)
     case measure => simp [intOf]; omega
    have HOR := Hd.mk (cmpL_hit xs ys j HZ.out hj hk h0); generalize xs.getD j 0 = x at hcell h0 HOR; generalize ys.getD j 0 = y at hcell2 h0 HOR; have hcx := hc x y; generalize cmpI x y = z at hcx h0 HOR; have hne : (z == 0) = false := by rw [beq_eq_false_iff_ne]; exact h0
    clear h0; go_wp2_with (go_at_call 70; refine (hcx _).mono ?_; rintro e w' ⟨rfl, rfl⟩)
    go_ret
    exact ⟨by rw [HOR.out]; rfl, rfl⟩
   have e1 : j = ys.length := by omega
   have HOR := Hd.mk (cmpL_more xs ys (by rw [← e1]; exact HZ.out) (by omega)); clear e1; generalize xs.getD j 0 = x at hcell; go_wp2
   go_ret
   exact ⟨by rw [HOR.out]; rfl, rfl⟩
  have e1 : j = xs.length := by omega
  by_cases hk : j < ys.length
  ·have HOR := Hd.mk (cmpL_less xs ys (by rw [← e1]; exact HZ.out) (by omega)); go_wp2
   go_ret
   exact ⟨by rw [HOR.out]; rfl, rfl⟩
  have HOR := Hd.mk (cmpL_same xs ys (by rw [← e1]; exact HZ.out) (by omega)); go_wp2
  go_ret
  exact ⟨by rw [HOR.out]; rfl, rfl⟩
theorem got_x {f : Nat} {xs : Array Value} {w : World} {u : Value} (h : Calls Tryz.prog f xs w fun e w' => e = .returned u ∧ w' = w) : Calls Tryz.prog f xs w (GotG w (isV u).p) :=
 h.mono fun e w' ⟨h1, h2⟩ => ⟨u, h1, by rw [h2]; exact Bel.refl _, rfl⟩
theorem wp_bG {P : Program} {Q : Exit → Act → World → Prop} {o : Oper} {a : Act} {w : World} {d : Nat} {u u' : Value} (h : u = u') (hc : o.wp P a w (PostG a w d (isV u).p) Q) : o.wp P a w (PostG a w d (isV u').p) Q := by
 subst h; exact hc
def ordT (W1 H1 : Int) (xs : List Int) (W2 H2 : Int) (ys : List Int) : Int := orL [cmpI W1 W2, cmpI H1 H2, cmpL xs ys]
set_option maxRecDepth 100000 in
set_option maxHeartbeats 1000000 in
theorem byOrder_x (a b : Mv) (w : World) :
  Calls Tryz.prog 55 #[.agg #[.int .i64 a.x, .int .i64 a.y, .int .i64 a.t, .bool a.f], .agg #[.int .i64 b.x, .int .i64 b.y, .int .i64 b.t, .bool b.f]] w (GotG w (isV (.int .i64 (ordM a b))).p) := by
 by_cases h1 : a.f = b.f
 ·have e0 : ordM a b = orL [0, cmpI a.t b.t, cmpI a.x b.x, cmpI a.y b.y] := by unfold ordM; rw [if_pos h1]
  rw [e0]; clear e0; have H1 := Hd.mk h1; clear h1; go_enter Tryz.func55, Tryz.ntmps55
  go_upto_region 1 with fail
  obtain ⟨W0, hW0⟩ : ∃ W : World, W = (w.alloc (.cells #[.int .i64 a.x, .int .i64 a.y, .int .i64 a.t, .bool a.f] 65)).alloc (.cells #[.int .i64 b.x, .int .i64 b.y, .int .i64 b.t, .bool b.f] 65) := ⟨_, rfl⟩; rw [← hW0]; obtain ⟨he, hb⟩ := env_twoG hW0; have HE := Hd.mk he; have HB := Hd.mk hb; clear he hb hW0; refine wp_region_gd 0 [] [] [] 63 [.int .i64 0, .int .i64 0] [] (by rfl) alloc_Z ?_ ?_
  ·intro qi qh qA aa wx hb hs hd
   match qi, qh, qA with
   | qi + 0, h, _ => omega
  intro vs X1 hb hv hal hne; replace HB := Hd.mk (HB.out.trans hb); replace HE : Hd (Env X1 [⟨w.heap.size, 65, [.int .i64 a.x, .int .i64 a.y, .int .i64 a.t, .bool a.f]⟩, ⟨w.heap.size + 1, 65, [.int .i64 b.x, .int .i64 b.y, .int .i64 b.t, .bool b.f]⟩]) := ⟨HE.out.to hb.b⟩; simp only [PA]; clear hv hal hne hb; go_upto_region 2 with fail
  refine wp_region_gd 5 [6, 7, 8, 9, 10] [0, 2, 4] [] 63 [.int .i64 0, .int .i64 0] [isV (.pointer (some ⟨w.heap.size, 3, none⟩)), isV (.bool a.f), isV (.pointer (some ⟨w.heap.size + 1, 3, none⟩)), isV (.bool b.f), isV (.bool false)] (by rfl) alloc_Z ?_ ?_
  ·intro qi qh qA aa wx hb hs hd
   match qi, qh, qA with
   | 0, _, _ => exact aL ⟨_, op_faM3 rfl (hs 2 rfl), rfl⟩ | 1, _, _ => exact aL (op_ldGB rfl rfl (hd 0 rfl) ((HE.out.to hb.b).cell 0 3 rfl rfl)) | 2, _, _ => exact aL ⟨_, op_faM3 rfl (hs 3 rfl), rfl⟩ | 3, _, _ => exact aL (op_ldGB rfl rfl (hd 2 rfl) ((HE.out.to hb.b).cell 1 3 rfl rfl)) | 4, _, _ => exact aL (pure_b (bool_eq (by rw [H1.out]; cases b.f <;> rfl)) (⟨_, op_neqB rfl (hd 1 rfl) (hd 3 rfl), rfl⟩)) | qi + 5, h, _ => omega
  intro vs X2 hb hv hal hne; replace HB := Hd.mk (HB.out.trans hb); replace HE : Hd (Env X2 [⟨w.heap.size, 65, [.int .i64 a.x, .int .i64 a.y, .int .i64 a.t, .bool a.f]⟩, ⟨w.heap.size + 1, 65, [.int .i64 b.x, .int .i64 b.y, .int .i64 b.t, .bool b.f]⟩]) := ⟨HE.out.to hb.b⟩; have e10 : vs 10 = .bool false := hv 4 (by decide) rfl; simp only [PA, e10]; clear hv hal hne hb e10; go_upto_region 6 with fail
  refine wp_region_gs 19 [13, 14, 15, 16, 17, 18, 19, 20, 21, 22, 23, 24, 25, 26, 27, 28, 29, 30, 4] [0, 1, 3, 6, 8, 11, 13, 18] [] 63 [.int .i64 0, .int .i64 0] [isV (.int .i64 0), isV (.pointer (some ⟨w.heap.size, 2, none⟩)), isV (.int .i64 a.t), isV (.pointer (some ⟨w.heap.size + 1, 2, none⟩)), isV (.int .i64 b.t), isV (.int .i64 (cmpI a.t b.t)), isV (.pointer (some ⟨w.heap.size, 0, none⟩)), isV (.int .i64 a.x), isV (.pointer (some ⟨w.heap.size + 1, 0, none⟩)), isV (.int .i64 b.x), isV (.int .i64 (cmpI a.x b.x)), isV (.pointer (some ⟨w.heap.size, 1, none⟩)), isV (.int .i64 a.y), isV (.pointer (some ⟨w.heap.size + 1, 1, none⟩)), isV (.int .i64 b.y), isV (.int .i64 (cmpI a.y b.y)), isF X2.heap.size ([0, cmpI a.t b.t, cmpI a.x b.x, cmpI a.y b.y]), isV (.int .i64 (orL [0, cmpI a.t b.t, cmpI a.x b.x, cmpI a.y b.y])), isV (.int .i64 (orL [0, cmpI a.t b.t, cmpI a.x b.x, cmpI a.y b.y]))] (by kernel_rfl) (by kernel_rfl) (by kernel_rfl) (by rfl) alloc_Z (fun d v c a w h => by cases d <;> exact h) ?_ ?_
  ·intro qi qh qA aa wx hb hs hd
   match qi, qh, qA with
   | 0, _, _ => exact op_mv rfl (hs 5 rfl) | 1, _, _ => exact ⟨_, op_faM2 rfl (hs 2 rfl), rfl⟩ | 2, _, _ => exact op_ldGI rfl rfl (hd 1 rfl) ((HE.out.to hb.b).cell 0 2 rfl rfl) | 3, _, _ => exact ⟨_, op_faM2 rfl (hs 3 rfl), rfl⟩ | 4, _, _ => exact op_ldGI rfl rfl (hd 3 rfl) ((HE.out.to hb.b).cell 1 2 rfl rfl) | 5, _, _ => exact op_callG2 rfl rfl Tryz.call70 (by rw [(show aa.eval (.tmp 15) = .int .i64 a.t from (hd 2 rfl)), (show aa.eval (.tmp 17) = .int .i64 b.t from (hd 4 rfl))]; exact got_x (Compare_x a.t b.t _)) | 6, _, _ => exact ⟨_, op_faM0 rfl (hs 2 rfl), rfl⟩ | 7, _, _ => exact op_ldGI rfl rfl (hd 6 rfl) ((HE.out.to hb.b).cell 0 0 rfl rfl) | 8, _, _ => exact ⟨_, op_faM0 rfl (hs 3 rfl), rfl⟩ | 9, _, _ => exact op_ldGI rfl rfl (hd 8 rfl) ((HE.out.to hb.b).cell 1 0 rfl rfl) | 10, _, _ => exact op_callG2 rfl rfl Tryz.call70 (by rw [(show aa.eval (.tmp 20) = .int .i64 a.x from (hd 7 rfl)), (show aa.eval (.tmp 22) = .int .i64 b.x from (hd 9 rfl))]; exact got_x (Compare_x a.x b.x _)) | 11, _, _ => exact ⟨_, op_faM1 rfl (hs 2 rfl), rfl⟩ | 12, _, _ => exact op_ldGI rfl rfl (hd 11 rfl) ((HE.out.to hb.b).cell 0 1 rfl rfl) | 13, _, _ => exact ⟨_, op_faM1 rfl (hs 3 rfl), rfl⟩ | 14, _, _ => exact op_ldGI rfl rfl (hd 13 rfl) ((HE.out.to hb.b).cell 1 1 rfl rfl) | 15, _, _ => exact op_callG2 rfl rfl Tryz.call70 (by rw [(show aa.eval (.tmp 25) = .int .i64 a.y from (hd 12 rfl)), (show aa.eval (.tmp 27) = .int .i64 b.y from (hd 14 rfl))]; exact got_x (Compare_x a.y b.y _)) | 16, _, _ => exact op_litG4 rfl rfl (hd 0 rfl) (hd 5 rfl) (hd 10 rfl) (hd 15 rfl) _ (Nat.le_trans (Nat.le_refl _) hb.b.size) | 17, _, _ => exact op_callG1 rfl rfl Tryz.call69 (by obtain ⟨g, k, rest, e, _, _, _, b⟩ := (hd 16 rfl); rw [show aa.eval (.tmp 29) = _ from e]; exact got_x (Or_x _ k _ _ b.ri (by simp))) | 18, _, _ => exact op_asg rfl (hd 17 rfl) | qi + 19, h, _ => omega
  intro vs X3 hb hv hal hne; replace HB := Hd.mk (HB.out.trans hb); replace HE : Hd (Env X3 [⟨w.heap.size, 65, [.int .i64 a.x, .int .i64 a.y, .int .i64 a.t, .bool a.f]⟩, ⟨w.heap.size + 1, 65, [.int .i64 b.x, .int .i64 b.y, .int .i64 b.t, .bool b.f]⟩]) := ⟨HE.out.to hb.b⟩; have e4 : vs 4 = .int .i64 (orL [0, cmpI a.t b.t, cmpI a.x b.x, cmpI a.y b.y]) := hv 18 (by decide) rfl; simp only [PA, e4]; clear hv hal hne hb e4; go_wp2_with fail
  go_ret
  exact ⟨_, rfl, HB.out, rfl⟩
 by_cases h2 : a.f = true
 ·have e0 : ordM a b = orL [1, cmpI a.t b.t, cmpI a.x b.x, cmpI a.y b.y] := by unfold ordM; rw [if_neg h1, if_pos h2]
  rw [e0]; clear e0; have H1 := Hd.mk h1; have H2 := Hd.mk h2; clear h1 h2; go_enter Tryz.func55, Tryz.ntmps55
  go_upto_region 1 with fail
  obtain ⟨W0, hW0⟩ : ∃ W : World, W = (w.alloc (.cells #[.int .i64 a.x, .int .i64 a.y, .int .i64 a.t, .bool a.f] 65)).alloc (.cells #[.int .i64 b.x, .int .i64 b.y, .int .i64 b.t, .bool b.f] 65) := ⟨_, rfl⟩; rw [← hW0]; obtain ⟨he, hb⟩ := env_twoG hW0; have HE := Hd.mk he; have HB := Hd.mk hb; clear he hb hW0; refine wp_region_gd 0 [] [] [] 63 [.int .i64 0, .int .i64 0] [] (by rfl) alloc_Z ?_ ?_
  ·intro qi qh qA aa wx hb hs hd
   match qi, qh, qA with
   | qi + 0, h, _ => omega
  intro vs X1 hb hv hal hne; replace HB := Hd.mk (HB.out.trans hb); replace HE : Hd (Env X1 [⟨w.heap.size, 65, [.int .i64 a.x, .int .i64 a.y, .int .i64 a.t, .bool a.f]⟩, ⟨w.heap.size + 1, 65, [.int .i64 b.x, .int .i64 b.y, .int .i64 b.t, .bool b.f]⟩]) := ⟨HE.out.to hb.b⟩; simp only [PA]; clear hv hal hne hb; go_upto_region 2 with fail
  refine wp_region_gd 5 [6, 7, 8, 9, 10] [0, 2, 4] [] 63 [.int .i64 0, .int .i64 0] [isV (.pointer (some ⟨w.heap.size, 3, none⟩)), isV (.bool a.f), isV (.pointer (some ⟨w.heap.size + 1, 3, none⟩)), isV (.bool b.f), isV (.bool true)] (by rfl) alloc_Z ?_ ?_
  ·intro qi qh qA aa wx hb hs hd
   match qi, qh, qA with
   | 0, _, _ => exact aL ⟨_, op_faM3 rfl (hs 2 rfl), rfl⟩ | 1, _, _ => exact aL (op_ldGB rfl rfl (hd 0 rfl) ((HE.out.to hb.b).cell 0 3 rfl rfl)) | 2, _, _ => exact aL ⟨_, op_faM3 rfl (hs 3 rfl), rfl⟩ | 3, _, _ => exact aL (op_ldGB rfl rfl (hd 2 rfl) ((HE.out.to hb.b).cell 1 3 rfl rfl)) | 4, _, _ => exact aL (pure_b (bool_eq (bne_of H1.out)) (⟨_, op_neqB rfl (hd 1 rfl) (hd 3 rfl), rfl⟩)) | qi + 5, h, _ => omega
  intro vs X2 hb hv hal hne; replace HB := Hd.mk (HB.out.trans hb); replace HE : Hd (Env X2 [⟨w.heap.size, 65, [.int .i64 a.x, .int .i64 a.y, .int .i64 a.t, .bool a.f]⟩, ⟨w.heap.size + 1, 65, [.int .i64 b.x, .int .i64 b.y, .int .i64 b.t, .bool b.f]⟩]) := ⟨HE.out.to hb.b⟩; have e10 : vs 10 = .bool true := hv 4 (by decide) rfl; simp only [PA, e10]; clear hv hal hne hb e10; go_upto_region 3 with fail
  refine wp_region_gd 0 [] [] [] 63 [.int .i64 0, .int .i64 0] [] (by rfl) alloc_Z ?_ ?_
  ·intro qi qh qA aa wx hb hs hd
   match qi, qh, qA with
   | qi + 0, h, _ => omega
  intro vs X3 hb hv hal hne; replace HB := Hd.mk (HB.out.trans hb); replace HE : Hd (Env X3 [⟨w.heap.size, 65, [.int .i64 a.x, .int .i64 a.y, .int .i64 a.t, .bool a.f]⟩, ⟨w.heap.size + 1, 65, [.int .i64 b.x, .int .i64 b.y, .int .i64 b.t, .bool b.f]⟩]) := ⟨HE.out.to hb.b⟩; simp only [PA]; clear hv hal hne hb; go_upto_region 4 with fail
  refine wp_region_gd 2 [11, 12] [0] [] 63 [.int .i64 0, .int .i64 0] [isV (.pointer (some ⟨w.heap.size, 3, none⟩)), isV (.bool true)] (by rfl) alloc_Z ?_ ?_
  ·intro qi qh qA aa wx hb hs hd
   match qi, qh, qA with
   | 0, _, _ => exact aL ⟨_, op_faM3 rfl (hs 2 rfl), rfl⟩ | 1, _, _ => exact aL (wp_bG (bool_eq H2.out) (op_ldGB rfl rfl (hd 0 rfl) ((HE.out.to hb.b).cell 0 3 rfl rfl))) | qi + 2, h, _ => omega
  intro vs X4 hb hv hal hne; replace HB := Hd.mk (HB.out.trans hb); replace HE : Hd (Env X4 [⟨w.heap.size, 65, [.int .i64 a.x, .int .i64 a.y, .int .i64 a.t, .bool a.f]⟩, ⟨w.heap.size + 1, 65, [.int .i64 b.x, .int .i64 b.y, .int .i64 b.t, .bool b.f]⟩]) := ⟨HE.out.to hb.b⟩; have e12 : vs 12 = .bool true := hv 1 (by decide) rfl; simp only [PA, e12]; clear hv hal hne hb e12; go_upto_region 5 with fail
  refine wp_region_gd 0 [] [] [] 63 [.int .i64 0, .int .i64 0] [] (by rfl) alloc_Z ?_ ?_
  ·intro qi qh qA aa wx hb hs hd
   match qi, qh, qA with
   | qi + 0, h, _ => omega
  intro vs X5 hb hv hal hne; replace HB := Hd.mk (HB.out.trans hb); replace HE : Hd (Env X5 [⟨w.heap.size, 65, [.int .i64 a.x, .int .i64 a.y, .int .i64 a.t, .bool a.f]⟩, ⟨w.heap.size + 1, 65, [.int .i64 b.x, .int .i64 b.y, .int .i64 b.t, .bool b.f]⟩]) := ⟨HE.out.to hb.b⟩; simp only [PA]; clear hv hal hne hb; go_upto_region 6 with fail
  refine wp_region_gs 19 [13, 14, 15, 16, 17, 18, 19, 20, 21, 22, 23, 24, 25, 26, 27, 28, 29, 30, 4] [0, 1, 3, 6, 8, 11, 13, 18] [] 63 [.int .i64 0, .int .i64 0] [isV (.int .i64 1), isV (.pointer (some ⟨w.heap.size, 2, none⟩)), isV (.int .i64 a.t), isV (.pointer (some ⟨w.heap.size + 1, 2, none⟩)), isV (.int .i64 b.t), isV (.int .i64 (cmpI a.t b.t)), isV (.pointer (some ⟨w.heap.size, 0, none⟩)), isV (.int .i64 a.x), isV (.pointer (some ⟨w.heap.size + 1, 0, none⟩)), isV (.int .i64 b.x), isV (.int .i64 (cmpI a.x b.x)), isV (.pointer (some ⟨w.heap.size, 1, none⟩)), isV (.int .i64 a.y), isV (.pointer (some ⟨w.heap.size + 1, 1, none⟩)), isV (.int .i64 b.y), isV (.int .i64 (cmpI a.y b.y)), isF X5.heap.size ([1, cmpI a.t b.t, cmpI a.x b.x, cmpI a.y b.y]), isV (.int .i64 (orL [1, cmpI a.t b.t, cmpI a.x b.x, cmpI a.y b.y])), isV (.int .i64 (orL [1, cmpI a.t b.t, cmpI a.x b.x, cmpI a.y b.y]))] (by kernel_rfl) (by kernel_rfl) (by kernel_rfl) (by rfl) alloc_Z (fun d v c a w h => by cases d <;> exact h) ?_ ?_
  ·intro qi qh qA aa wx hb hs hd
   match qi, qh, qA with
   | 0, _, _ => exact op_mv rfl (hs 5 rfl) | 1, _, _ => exact ⟨_, op_faM2 rfl (hs 2 rfl), rfl⟩ | 2, _, _ => exact op_ldGI rfl rfl (hd 1 rfl) ((HE.out.to hb.b).cell 0 2 rfl rfl) | 3, _, _ => exact ⟨_, op_faM2 rfl (hs 3 rfl), rfl⟩ | 4, _, _ => exact op_ldGI rfl rfl (hd 3 rfl) ((HE.out.to hb.b).cell 1 2 rfl rfl) | 5, _, _ => exact op_callG2 rfl rfl Tryz.call70 (by rw [(show aa.eval (.tmp 15) = .int .i64 a.t from (hd 2 rfl)), (show aa.eval (.tmp 17) = .int .i64 b.t from (hd 4 rfl))]; exact got_x (Compare_x a.t b.t _)) | 6, _, _ => exact ⟨_, op_faM0 rfl (hs 2 rfl), rfl⟩ | 7, _, _ => exact op_ldGI rfl rfl (hd 6 rfl) ((HE.out.to hb.b).cell 0 0 rfl rfl) | 8, _, _ => exact ⟨_, op_faM0 rfl (hs 3 rfl), rfl⟩ | 9, _, _ => exact op_ldGI rfl rfl (hd 8 rfl) ((HE.out.to hb.b).cell 1 0 rfl rfl) | 10, _, _ => exact op_callG2 rfl rfl Tryz.call70 (by rw [(show aa.eval (.tmp 20) = .int .i64 a.x from (hd 7 rfl)), (show aa.eval (.tmp 22) = .int .i64 b.x from (hd 9 rfl))]; exact got_x (Compare_x a.x b.x _)) | 11, _, _ => exact ⟨_, op_faM1 rfl (hs 2 rfl), rfl⟩ | 12, _, _ => exact op_ldGI rfl rfl (hd 11 rfl) ((HE.out.to hb.b).cell 0 1 rfl rfl) | 13, _, _ => exact ⟨_, op_faM1 rfl (hs 3 rfl), rfl⟩ | 14, _, _ => exact op_ldGI rfl rfl (hd 13 rfl) ((HE.out.to hb.b).cell 1 1 rfl rfl) | 15, _, _ => exact op_callG2 rfl rfl Tryz.call70 (by rw [(show aa.eval (.tmp 25) = .int .i64 a.y from (hd 12 rfl)), (show aa.eval (.tmp 27) = .int .i64 b.y from (hd 14 rfl))]; exact got_x (Compare_x a.y b.y _)) | 16, _, _ => exact op_litG4 rfl rfl (hd 0 rfl) (hd 5 rfl) (hd 10 rfl) (hd 15 rfl) _ (Nat.le_trans (Nat.le_refl _) hb.b.size) | 17, _, _ => exact op_callG1 rfl rfl Tryz.call69 (by obtain ⟨g, k, rest, e, _, _, _, b⟩ := (hd 16 rfl); rw [show aa.eval (.tmp 29) = _ from e]; exact got_x (Or_x _ k _ _ b.ri (by simp))) | 18, _, _ => exact op_asg rfl (hd 17 rfl) | qi + 19, h, _ => omega
  intro vs X6 hb hv hal hne; replace HB := Hd.mk (HB.out.trans hb); replace HE : Hd (Env X6 [⟨w.heap.size, 65, [.int .i64 a.x, .int .i64 a.y, .int .i64 a.t, .bool a.f]⟩, ⟨w.heap.size + 1, 65, [.int .i64 b.x, .int .i64 b.y, .int .i64 b.t, .bool b.f]⟩]) := ⟨HE.out.to hb.b⟩; have e4 : vs 4 = .int .i64 (orL [1, cmpI a.t b.t, cmpI a.x b.x, cmpI a.y b.y]) := hv 18 (by decide) rfl; simp only [PA, e4]; clear hv hal hne hb e4; go_wp2_with fail
  go_ret
  exact ⟨_, rfl, HB.out, rfl⟩
 have h3 : a.f = false := by simpa using h2
 have e0 : ordM a b = orL [(-1), cmpI a.t b.t, cmpI a.x b.x, cmpI a.y b.y] := by unfold ordM; rw [if_neg h1, if_neg h2]
 rw [e0]; clear e0; have H1 := Hd.mk h1; have H3 := Hd.mk h3; clear h1 h2 h3; go_enter Tryz.func55, Tryz.ntmps55
 go_upto_region 1 with fail
 obtain ⟨W0, hW0⟩ : ∃ W : World, W = (w.alloc (.cells #[.int .i64 a.x, .int .i64 a.y, .int .i64 a.t, .bool a.f] 65)).alloc (.cells #[.int .i64 b.x, .int .i64 b.y, .int .i64 b.t, .bool b.f] 65) := ⟨_, rfl⟩; rw [← hW0]; obtain ⟨he, hb⟩ := env_twoG hW0; have HE := Hd.mk he; have HB := Hd.mk hb; clear he hb hW0; refine wp_region_gd 0 [] [] [] 63 [.int .i64 0, .int .i64 0] [] (by rfl) alloc_Z ?_ ?_
 ·intro qi qh qA aa wx hb hs hd
  match qi, qh, qA with
  | qi + 0, h, _ => omega
 intro vs X1 hb hv hal hne; replace HB := Hd.mk (HB.out.trans hb); replace HE : Hd (Env X1 [⟨w.heap.size, 65, [.int .i64 a.x, .int .i64 a.y, .int .i64 a.t, .bool a.f]⟩, ⟨w.heap.size + 1, 65, [.int .i64 b.x, .int .i64 b.y, .int .i64 b.t, .bool b.f]⟩]) := ⟨HE.out.to hb.b⟩; simp only [PA]; clear hv hal hne hb; go_upto_region 2 with fail
 refine wp_region_gd 5 [6, 7, 8, 9, 10] [0, 2, 4] [] 63 [.int .i64 0, .int .i64 0] [isV (.pointer (some ⟨w.heap.size, 3, none⟩)), isV (.bool a.f), isV (.pointer (some ⟨w.heap.size + 1, 3, none⟩)), isV (.bool b.f), isV (.bool true)] (by rfl) alloc_Z ?_ ?_
 ·intro qi qh qA aa wx hb hs hd
  match qi, qh, qA with
  | 0, _, _ => exact aL ⟨_, op_faM3 rfl (hs 2 rfl), rfl⟩ | 1, _, _ => exact aL (op_ldGB rfl rfl (hd 0 rfl) ((HE.out.to hb.b).cell 0 3 rfl rfl)) | 2, _, _ => exact aL ⟨_, op_faM3 rfl (hs 3 rfl), rfl⟩ | 3, _, _ => exact aL (op_ldGB rfl rfl (hd 2 rfl) ((HE.out.to hb.b).cell 1 3 rfl rfl)) | 4, _, _ => exact aL (pure_b (bool_eq (bne_of H1.out)) (⟨_, op_neqB rfl (hd 1 rfl) (hd 3 rfl), rfl⟩)) | qi + 5, h, _ => omega
 intro vs X2 hb hv hal hne; replace HB := Hd.mk (HB.out.trans hb); replace HE : Hd (Env X2 [⟨w.heap.size, 65, [.int .i64 a.x, .int .i64 a.y, .int .i64 a.t, .bool a.f]⟩, ⟨w.heap.size + 1, 65, [.int .i64 b.x, .int .i64 b.y, .int .i64 b.t, .bool b.f]⟩]) := ⟨HE.out.to hb.b⟩; have e10 : vs 10 = .bool true := hv 4 (by decide) rfl; simp only [PA, e10]; clear hv hal hne hb e10; go_upto_region 3 with fail
 refine wp_region_gd 0 [] [] [] 63 [.int .i64 0, .int .i64 0] [] (by rfl) alloc_Z ?_ ?_
 ·intro qi qh qA aa wx hb hs hd
  match qi, qh, qA with
  | qi + 0, h, _ => omega
 intro vs X3 hb hv hal hne; replace HB := Hd.mk (HB.out.trans hb); replace HE : Hd (Env X3 [⟨w.heap.size, 65, [.int .i64 a.x, .int .i64 a.y, .int .i64 a.t, .bool a.f]⟩, ⟨w.heap.size + 1, 65, [.int .i64 b.x, .int .i64 b.y, .int .i64 b.t, .bool b.f]⟩]) := ⟨HE.out.to hb.b⟩; simp only [PA]; clear hv hal hne hb; go_upto_region 4 with fail
 refine wp_region_gd 2 [11, 12] [0] [] 63 [.int .i64 0, .int .i64 0] [isV (.pointer (some ⟨w.heap.size, 3, none⟩)), isV (.bool false)] (by rfl) alloc_Z ?_ ?_
 ·intro qi qh qA aa wx hb hs hd
  match qi, qh, qA with
  | 0, _, _ => exact aL ⟨_, op_faM3 rfl (hs 2 rfl), rfl⟩ | 1, _, _ => exact aL (wp_bG (bool_eq H3.out) (op_ldGB rfl rfl (hd 0 rfl) ((HE.out.to hb.b).cell 0 3 rfl rfl))) | qi + 2, h, _ => omega
 intro vs X4 hb hv hal hne; replace HB := Hd.mk (HB.out.trans hb); replace HE : Hd (Env X4 [⟨w.heap.size, 65, [.int .i64 a.x, .int .i64 a.y, .int .i64 a.t, .bool a.f]⟩, ⟨w.heap.size + 1, 65, [.int .i64 b.x, .int .i64 b.y, .int .i64 b.t, .bool b.f]⟩]) := ⟨HE.out.to hb.b⟩; have e12 : vs 12 = .bool false := hv 1 (by decide) rfl; simp only [PA, e12]; clear hv hal hne hb e12; go_upto_region 6 with fail
 refine wp_region_gs 19 [13, 14, 15, 16, 17, 18, 19, 20, 21, 22, 23, 24, 25, 26, 27, 28, 29, 30, 4] [0, 1, 3, 6, 8, 11, 13, 18] [] 63 [.int .i64 0, .int .i64 0] [isV (.int .i64 (-1)), isV (.pointer (some ⟨w.heap.size, 2, none⟩)), isV (.int .i64 a.t), isV (.pointer (some ⟨w.heap.size + 1, 2, none⟩)), isV (.int .i64 b.t), isV (.int .i64 (cmpI a.t b.t)), isV (.pointer (some ⟨w.heap.size, 0, none⟩)), isV (.int .i64 a.x), isV (.pointer (some ⟨w.heap.size + 1, 0, none⟩)), isV (.int .i64 b.x), isV (.int .i64 (cmpI a.x b.x)), isV (.pointer (some ⟨w.heap.size, 1, none⟩)), isV (.int .i64 a.y), isV (.pointer (some ⟨w.heap.size + 1, 1, none⟩)), isV (.int .i64 b.y), isV (.int .i64 (cmpI a.y b.y)), isF X4.heap.size ([(-1), cmpI a.t b.t, cmpI a.x b.x, cmpI a.y b.y]), isV (.int .i64 (orL [(-1), cmpI a.t b.t, cmpI a.x b.x, cmpI a.y b.y])), isV (.int .i64 (orL [(-1), cmpI a.t b.t, cmpI a.x b.x, cmpI a.y b.y]))] (by kernel_rfl) (by kernel_rfl) (by kernel_rfl) (by rfl) alloc_Z (fun d v c a w h => by cases d <;> exact h) ?_ ?_
 ·intro qi qh qA aa wx hb hs hd
  match qi, qh, qA with
  | 0, _, _ => exact op_mv rfl (hs 5 rfl) | 1, _, _ => exact ⟨_, op_faM2 rfl (hs 2 rfl), rfl⟩ | 2, _, _ => exact op_ldGI rfl rfl (hd 1 rfl) ((HE.out.to hb.b).cell 0 2 rfl rfl) | 3, _, _ => exact ⟨_, op_faM2 rfl (hs 3 rfl), rfl⟩ | 4, _, _ => exact op_ldGI rfl rfl (hd 3 rfl) ((HE.out.to hb.b).cell 1 2 rfl rfl) | 5, _, _ => exact op_callG2 rfl rfl Tryz.call70 (by rw [(show aa.eval (.tmp 15) = .int .i64 a.t from (hd 2 rfl)), (show aa.eval (.tmp 17) = .int .i64 b.t from (hd 4 rfl))]; exact got_x (Compare_x a.t b.t _)) | 6, _, _ => exact ⟨_, op_faM0 rfl (hs 2 rfl), rfl⟩ | 7, _, _ => exact op_ldGI rfl rfl (hd 6 rfl) ((HE.out.to hb.b).cell 0 0 rfl rfl) | 8, _, _ => exact ⟨_, op_faM0 rfl (hs 3 rfl), rfl⟩ | 9, _, _ => exact op_ldGI rfl rfl (hd 8 rfl) ((HE.out.to hb.b).cell 1 0 rfl rfl) | 10, _, _ => exact op_callG2 rfl rfl Tryz.call70 (by rw [(show aa.eval (.tmp 20) = .int .i64 a.x from (hd 7 rfl)), (show aa.eval (.tmp 22) = .int .i64 b.x from (hd 9 rfl))]; exact got_x (Compare_x a.x b.x _)) | 11, _, _ => exact ⟨_, op_faM1 rfl (hs 2 rfl), rfl⟩ | 12, _, _ => exact op_ldGI rfl rfl (hd 11 rfl) ((HE.out.to hb.b).cell 0 1 rfl rfl) | 13, _, _ => exact ⟨_, op_faM1 rfl (hs 3 rfl), rfl⟩ | 14, _, _ => exact op_ldGI rfl rfl (hd 13 rfl) ((HE.out.to hb.b).cell 1 1 rfl rfl) | 15, _, _ => exact op_callG2 rfl rfl Tryz.call70 (by rw [(show aa.eval (.tmp 25) = .int .i64 a.y from (hd 12 rfl)), (show aa.eval (.tmp 27) = .int .i64 b.y from (hd 14 rfl))]; exact got_x (Compare_x a.y b.y _)) | 16, _, _ => exact op_litG4 rfl rfl (hd 0 rfl) (hd 5 rfl) (hd 10 rfl) (hd 15 rfl) _ (Nat.le_trans (Nat.le_refl _) hb.b.size) | 17, _, _ => exact op_callG1 rfl rfl Tryz.call69 (by obtain ⟨g, k, rest, e, _, _, _, b⟩ := (hd 16 rfl); rw [show aa.eval (.tmp 29) = _ from e]; exact got_x (Or_x _ k _ _ b.ri (by simp))) | 18, _, _ => exact op_asg rfl (hd 17 rfl) | qi + 19, h, _ => omega
 intro vs X5 hb hv hal hne; replace HB := Hd.mk (HB.out.trans hb); replace HE : Hd (Env X5 [⟨w.heap.size, 65, [.int .i64 a.x, .int .i64 a.y, .int .i64 a.t, .bool a.f]⟩, ⟨w.heap.size + 1, 65, [.int .i64 b.x, .int .i64 b.y, .int .i64 b.t, .bool b.f]⟩]) := ⟨HE.out.to hb.b⟩; have e4 : vs 4 = .int .i64 (orL [(-1), cmpI a.t b.t, cmpI a.x b.x, cmpI a.y b.y]) := hv 18 (by decide) rfl; simp only [PA, e4]; clear hv hal hne hb e4; go_wp2_with fail
 go_ret
 exact ⟨_, rfl, HB.out, rfl⟩
set_option maxRecDepth 100000 in
set_option maxHeartbeats 1000000 in
theorem compare_x (W1 H1 W2 H2 : Int) (A A' : Option Addr) (k k' : Nat) (xs ys : List Int) (w : World) (hri : RI w A xs) (hrj : RI w A' ys) (hl1 : xs.length ≤ 140737488351232) (hl2 : ys.length ≤ 140737488351232) :
  Calls Tryz.prog 32 #[.agg #[.int .i64 W1, .int .i64 H1, .slice A xs.length k], .agg #[.int .i64 W2, .int .i64 H2, .slice A' ys.length k']] w (GotG w (isV (.int .i64 (ordT W1 H1 xs W2 H2 ys))).p) := by
 have HRI := Hd.mk hri; have HRJ := Hd.mk hrj; clear hri hrj; go_enter Tryz.func32, Tryz.ntmps32
 go_upto_region 1 with fail
 obtain ⟨W0, hW0⟩ : ∃ W : World, W = (w.alloc (.cells #[.int .i64 W1, .int .i64 H1, .slice A xs.length k] 43)).alloc (.cells #[.int .i64 W2, .int .i64 H2, .slice A' ys.length k'] 43) := ⟨_, rfl⟩; rw [← hW0]; obtain ⟨he, hb⟩ := env_twoG hW0; have HE := Hd.mk he; have HB := Hd.mk hb; clear he hb hW0; refine wp_region_gs 18 [5, 6, 7, 8, 9, 10, 11, 12, 13, 14, 15, 16, 17, 18, 19, 20, 21, 4] [0, 2, 5, 7, 10, 12, 17] [] 63 [.int .i64 0, .int .i64 0] [isV (.pointer (some ⟨w.heap.size, 0, none⟩)), isV (.int .i64 W1), isV (.pointer (some ⟨w.heap.size + 1, 0, none⟩)), isV (.int .i64 W2), isV (.int .i64 (cmpI W1 W2)), isV (.pointer (some ⟨w.heap.size, 1, none⟩)), isV (.int .i64 H1), isV (.pointer (some ⟨w.heap.size + 1, 1, none⟩)), isV (.int .i64 H2), isV (.int .i64 (cmpI H1 H2)), isV (.pointer (some ⟨w.heap.size, 2, none⟩)), isV (.slice A xs.length k), isV (.pointer (some ⟨w.heap.size + 1, 2, none⟩)), isV (.slice A' ys.length k'), isV (.int .i64 (cmpL xs ys)), isF W0.heap.size ([cmpI W1 W2, cmpI H1 H2, cmpL xs ys]), isV (.int .i64 (orL [cmpI W1 W2, cmpI H1 H2, cmpL xs ys])), isV (.int .i64 (orL [cmpI W1 W2, cmpI H1 H2, cmpL xs ys]))] (by kernel_rfl) (by kernel_rfl) (by kernel_rfl) (by rfl) alloc_Z (fun d v c a w h => by cases d <;> exact h) ?_ ?_
 ·intro qi qh qA aa wx hb hs hd
  match qi, qh, qA with
  | 0, _, _ => exact ⟨_, op_faT0 rfl (hs 2 rfl), rfl⟩ | 1, _, _ => exact op_ldGI rfl rfl (hd 0 rfl) ((HE.out.to hb.b).cell 0 0 rfl rfl) | 2, _, _ => exact ⟨_, op_faT0 rfl (hs 3 rfl), rfl⟩ | 3, _, _ => exact op_ldGI rfl rfl (hd 2 rfl) ((HE.out.to hb.b).cell 1 0 rfl rfl) | 4, _, _ => exact op_callG2 rfl rfl Tryz.call70 (by rw [(show aa.eval (.tmp 6) = .int .i64 W1 from (hd 1 rfl)), (show aa.eval (.tmp 8) = .int .i64 W2 from (hd 3 rfl))]; exact got_x (Compare_x W1 W2 _)) | 5, _, _ => exact ⟨_, op_faT1 rfl (hs 2 rfl), rfl⟩ | 6, _, _ => exact op_ldGI rfl rfl (hd 5 rfl) ((HE.out.to hb.b).cell 0 1 rfl rfl) | 7, _, _ => exact ⟨_, op_faT1 rfl (hs 3 rfl), rfl⟩ | 8, _, _ => exact op_ldGI rfl rfl (hd 7 rfl) ((HE.out.to hb.b).cell 1 1 rfl rfl) | 9, _, _ => exact op_callG2 rfl rfl Tryz.call70 (by rw [(show aa.eval (.tmp 11) = .int .i64 H1 from (hd 6 rfl)), (show aa.eval (.tmp 13) = .int .i64 H2 from (hd 8 rfl))]; exact got_x (Compare_x H1 H2 _)) | 10, _, _ => exact ⟨_, op_faT2 rfl (hs 2 rfl), rfl⟩ | 11, _, _ => exact op_ldGS rfl rfl (hd 10 rfl) ((HE.out.to hb.b).cell 0 2 rfl rfl) | 12, _, _ => exact ⟨_, op_faT2 rfl (hs 3 rfl), rfl⟩ | 13, _, _ => exact op_ldGS rfl rfl (hd 12 rfl) ((HE.out.to hb.b).cell 1 2 rfl rfl) | 14, _, _ => exact op_callG2 rfl rfl Tryz.call71 (by rw [(show aa.eval (.tmp 16) = .slice A xs.length k from (hd 11 rfl)), (show aa.eval (.tmp 18) = .slice A' ys.length k' from (hd 13 rfl))]; exact got_x (CompareL_x A A' k k' xs ys _ (HRI.out.to (HB.out.trans hb).b) (HRJ.out.to (HB.out.trans hb).b) hl1 hl2)) | 15, _, _ => exact op_litG3 rfl rfl (hd 4 rfl) (hd 9 rfl) (hd 14 rfl) _ (Nat.le_trans (Nat.le_refl _) hb.b.size) | 16, _, _ => exact op_callG1 rfl rfl Tryz.call69 (by obtain ⟨g, k, rest, e, _, _, _, b⟩ := (hd 15 rfl); rw [show aa.eval (.tmp 20) = _ from e]; exact got_x (Or_x _ k _ _ b.ri (by simp))) | 17, _, _ => exact op_asg rfl (hd 16 rfl) | qi + 18, h, _ => omega
 intro vs X1 hb hv hal hne; replace HB := Hd.mk (HB.out.trans hb); replace HE : Hd (Env X1 [⟨w.heap.size, 43, [.int .i64 W1, .int .i64 H1, .slice A xs.length k]⟩, ⟨w.heap.size + 1, 43, [.int .i64 W2, .int .i64 H2, .slice A' ys.length k']⟩]) := ⟨HE.out.to hb.b⟩; have e4 : vs 4 = .int .i64 (orL [cmpI W1 W2, cmpI H1 H2, cmpL xs ys]) := hv 17 (by decide) rfl; simp only [PA, e4]; clear hv hal hne hb e4; go_wp2_with fail
 go_ret
 exact ⟨_, rfl, HB.out, rfl⟩
end Go.Proofs.YtddbmckbankmeaaGreat
set_option linter.unusedVariables false
set_option linter.unusedSimpArgs false
namespace Go.Proofs.YtddbmckbankmeaaGreat
open Go.RowKit Go.ChangeShapes Go.WideShapes Go.ChangeAt Go.WideMaps Go.Joins
open Go.Maps (Keyed)
theorem laidM : laidOutB Tryz.prog = true := by kernel_rfl
theorem rowM : (65 : TypeId) < Tryz.prog.types.size := of_decide_eq_true (by kernel_rfl)
theorem cellsSM : Tryz.prog.cellsOf 65 = 4 := by kernel_rfl
theorem cellsI1 : Tryz.prog.cellsOf 3 = 1 := by kernel_rfl
theorem cellsB1 : Tryz.prog.cellsOf 4 = 1 := by kernel_rfl
theorem deepM : Tryz.prog.keyTypeAt (Tryz.prog.types.size + 1) 65 = true := by kernel_rfl
theorem wideM : (match Tryz.prog.underlying 65 with | some (.array _ _) | some (.struct _) => true | _ => false) = true := by kernel_rfl
set_option maxRecDepth 100000 in
theorem lawM : KeyLaw Tryz.prog 65 := deep_law_laid laidM (m := 3) (by omega) rowM (by kernel_rfl) wideM
theorem keyedM : Keyed Tryz.prog 65 := Keyed.of_law lawM
def mvv (m : Mv) : Value := .agg #[.int .i64 m.x, .int .i64 m.y, .int .i64 m.t, .bool m.f]
def WfM (m : Mv) : Prop := (Lit.int .i64 m.x).wf = true ∧ (Lit.int .i64 m.y).wf = true ∧ (Lit.int .i64 m.t).wf = true
theorem wf_small {i : Int} (h : -1000 ≤ i ∧ i ≤ 1000) : (Lit.int .i64 i).wf = true := by
 simp [Lit.wf, IntKind.min, IntKind.max, IntKind.signed, IntKind.bits]; omega
theorem Al.wf {W H : Int} {m : Mv} (h : Al W H m) : WfM m := by
 have h1 := h.w; have h2 := h.h; have h3 := h.x; have h4 := h.y; have h5 := h.t; exact ⟨wf_small (by omega), wf_small (by omega), wf_small (by omega)⟩
theorem wf_zero : WfM ⟨0, 0, 0, false⟩ := ⟨wf_small (by simp), wf_small (by simp), wf_small (by simp)⟩
set_option maxRecDepth 100000 in
theorem key_of (w : World) {m : Mv} (h : WfM m) : ∃ kl, keyOf Tryz.prog 65 (mvv m) = some kl := by
 have hf : (mvv m).formed Tryz.prog 65 = true := by simp [Value.formed, mvv, Tryz.underlying65, cellsSM]
 have ht : DataW.Trod (H := Unit) (fun _ => ()) Tryz.prog w 0 (fun _ => true) true 65 (mvv m) (.agg [.lit (.int .i64 m.x), .lit (.int .i64 m.y), .lit (.int .i64 m.t), .lit (.bool m.f)]) [] :=
  ⟨2, by
   have h0 := trod_int_mk (H := Unit) (enc := fun _ => ()) (P := Tryz.prog) (w := w) (base := 0) (spare := fun _ => true) (held := true) 0 Tryz.underlying3 h.1; have h1 := trod_int_mk (H := Unit) (enc := fun _ => ()) (P := Tryz.prog) (w := w) (base := 0) (spare := fun _ => true) (held := true) 0 Tryz.underlying3 h.2.1; have h2 := trod_int_mk (H := Unit) (enc := fun _ => ()) (P := Tryz.prog) (w := w) (base := 0) (spare := fun _ => true) (held := true) 0 Tryz.underlying3 h.2.2; have h3 : DataW.trod (H := Unit) (fun _ => ()) Tryz.prog w 0 (fun _ => true) true 1 4 [.bool m.f] = some (.lit (.bool m.f), []) := by simp [DataW.trod, Tryz.underlying4]
   exact trod_struct4_mk (n := 1) (cs := [.int .i64 m.x, .int .i64 m.y, .int .i64 m.t, .bool m.f]) Tryz.underlying65 cellsSM.symm (by simpa [cellsI1] using h0) (by simpa [cellsI1] using h1) (by simpa [cellsI1] using h2) (by simpa [cellsB1] using h3)⟩
 exact ⟨_, (keyOf_asKey deepM wideM hf ht).1⟩
theorem mvv_inj {m n : Mv} (h : mvv m = mvv n) : m = n := by
 obtain ⟨x, y, t, f⟩ := m; obtain ⟨x', y', t', f'⟩ := n; simp [mvv] at h; simp [h]
theorem plainElem_bool_inv {P : Program} {e : TypeId} (he : P.underlying e = some .bool) {v : Value} {z : DataW Unit × List MemPlace} (h : plainElem P e v = some z) : ∃ b, v = .bool b ∧ z = (.lit (.bool b), []) := by
 unfold plainElem at h; rw [he] at h; cases v <;> simp at h
 exact ⟨_, rfl, h.symm⟩
def mvEq (m n : Mv) : Bool := m.x == n.x && (m.y == n.y && (m.t == n.t && m.f == n.f))
theorem mvEq_iff {m n : Mv} : mvEq m n = true ↔ m = n := by
 obtain ⟨x, y, t, f⟩ := m; obtain ⟨x', y', t', f'⟩ := n; simp [mvEq]
def memB (m : Mv) (ms : List Mv) : Bool := ms.any (mvEq m)
theorem memB_iff {m : Mv} {ms : List Mv} : memB m ms = true ↔ m ∈ ms := by
 unfold memB; rw [List.any_eq_true]; exact ⟨fun ⟨n, h1, h2⟩ => by rw [mvEq_iff.1 h2]; exact h1, fun h => ⟨m, h, mvEq_iff.2 rfl⟩⟩
def MapM (w : World) (b : Nat) (ms : List Mv) : Prop := ∃ D : DataW Unit, w.ownsMap Tryz.prog 65 (plainElem Tryz.prog 4) b ms.length D ∧
 ∀ m kl, WfM m → keyOf Tryz.prog 65 (mvv m) = some kl → D.atKey kl (.lit (.bool false)) = .lit (.bool (memB m ms))
theorem zeroBool (w : World) : (zeroValue 4).run Tryz.prog w = .ok (.bool false) w := by kernel_rfl
section
variable {w w' : World} {b : Nat} {ms : List Mv} {m : Mv}
theorem mapM_made (w : World) : MapM (w.alloc (.map #[] 0)) w.heap.size [] := ⟨.map [], World.ownsMap_made _ _ _ _, fun m kl _ _ => rfl⟩
theorem MapM.to (h : MapM w b ms) (hb : Below w.heap.size w w') : MapM w' b ms := by
 obtain ⟨D, h1, h2⟩ := h; exact ⟨D, h1.kept (row := none) ⟨hb.os, hb.tape, hb.output, hb.size, fun k hk _ => hb.block k hk⟩ (by simp), h2⟩
theorem MapM.put (h : MapM w b ms) {g o : Nat} {vs : List Value} (hlt : b < g) : MapM (putL w g o vs) b ms := by
 obtain ⟨D, ⟨es, clock, hb, F, hs, hD⟩, h2⟩ := h; exact ⟨D, ⟨es, clock, ((putL_below (Nat.le_refl g) vs w o (Below.refl g w)).block b hlt).trans hb, F, hs, hD⟩, h2⟩
theorem MapM.lt (h : MapM w b ms) : b < w.heap.size := by
 obtain ⟨D, h1, _⟩ := h; exact h1.lt
theorem MapM.look (h : MapM w b ms) (hw : WfM m) : (Instr.lookup 92 (.map (some b)) (mvv m) false).run Tryz.prog w = .ok (.bool (memB m ms)) w := by
 obtain ⟨D, h1, h2⟩ := h; obtain ⟨kl, hk⟩ := key_of w hw; obtain ⟨v, ps, hrun, hv⟩ := h1.lookup keyedM Tryz.underlying92 (zeroBool w) (plainElem_bool Tryz.underlying4 false) hk; obtain ⟨c, rfl, hc⟩ := plainElem_bool_inv Tryz.underlying4 hv; rw [h2 m kl hw hk] at hc; simp only [Prod.mk.injEq, DataW.lit.injEq, Lit.bool.injEq] at hc; rw [hrun, hc.1]
theorem MapM.store (h : MapM w b ms) (hw : WfM m) (hn : ms.length < maxLen) : ∃ w', (Instr.mapUpdate 92 (.map (some b)) (mvv m) (.bool true)).run Tryz.prog w = .ok () w' ∧ MapM w' b (ms ++ [m]) ∧ w.grownBy w' (some b) := by
 obtain ⟨D, h1, h2⟩ := h; obtain ⟨kl, hk⟩ := key_of w hw; obtain ⟨w', r1, r2, r3⟩ := h1.update keyedM Tryz.underlying92 hn hk (plainElem_bool Tryz.underlying4 true); refine ⟨w', r1, ⟨D.put kl (.lit (.bool true)), by rw [List.length_append]; exact r2, fun n nl hnw hnk => ?_⟩, r3⟩; by_cases e : nl = kl
 ·subst e; have := mvv_inj (keyedM.inj hnk hk); subst this; rw [Maps.atKey_put_same h1.isMap (keyedM.key hk)]; rw [show memB n (ms ++ [n]) = true from memB_iff.2 (by simp)]
 rw [Maps.atKey_put_other e, h2 n nl hnw hnk]
 have hne : n ≠ m := fun e2 => by
  subst e2; rw [hnk] at hk; exact e (Option.some.inj hk)
 have : memB n (ms ++ [m]) = memB n ms := by
  unfold memB; rw [List.any_append]
  have : mvEq n m = false := by
   cases hq : mvEq n m
   ·rfl
   exact absurd (mvEq_iff.1 hq) hne
  simp [this]
 rw [this]
end
section
variable {Q : Exit → Act → World → Prop} {o : Oper} {a : Act} {w : World} {d b : Nat} {x y : Operand} {m : Mv} {ms : List Mv}
theorem op_lookM (ho : o.op = .lookup 92 x y false) (hd : o.dst = some d) (hx : a.eval x = .map (some b)) (hy : a.eval y = .agg #[.int .i64 m.x, .int .i64 m.y, .int .i64 m.t, .bool m.f]) (h : MapM w b ms) (hw : WfM m) :
  o.wp Tryz.prog a w (Post a w d (isV (.bool (memB m ms))).p) Q := by
 refine op_run (v := .bool (memB m ms)) hd ?_ rfl; have hl := h.look hw; unfold mvv at hl; generalize a.eval = ev at hx hy ⊢; unfold execOp; simp only [ho, hx, hy]; simp [go_sem, hl]
end
end Go.Proofs.YtddbmckbankmeaaGreat
