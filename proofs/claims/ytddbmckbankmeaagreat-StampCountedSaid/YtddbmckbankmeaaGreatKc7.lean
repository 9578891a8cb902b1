/- Part 7 of the texts behind this claim. -/
import Derived.Sort.Grow
import Derived.Test.YtddbmckbankmeaaGreatKc6
set_option linter.unusedVariables false
set_option linter.unusedSimpArgs false
namespace Go.Proofs.YtddbmckbankmeaaGreat
open Go.RowKit
def cmpI (x y : Int) : Int := if x < y then -1 else if y < x then 1 else 0
def orL : List Int → Int
 | [] => 0
 | x :: xs => if x = 0 then orL xs else x
theorem orL_drop : ∀ (xs : List Int) (j : Nat), (∀ i : Nat, i < j → xs.getD i 0 = 0) → orL xs = orL (xs.drop j)
 | xs, 0, _ => rfl
 | [], j + 1, _ => rfl
 | x :: xs, j + 1, h => by
  have h0 : x = 0 := by simpa using h 0 (by omega)
  rw [List.drop_succ_cons, ← orL_drop xs j (fun i hi => by simpa using h (i + 1) (by omega)), orL, if_pos h0]
theorem orL_hit (xs : List Int) (j : Nat) (h : ∀ i : Nat, i < j → xs.getD i 0 = 0) (hj : j < xs.length) (hne : xs.getD j 0 ≠ 0) : orL xs = xs.getD j 0 := by
 rw [orL_drop xs j h, List.drop_eq_getElem_cons hj, orL]; rw [List.getD_eq_getElem?_getD, List.getElem?_eq_getElem hj] at hne ⊢; exact if_neg hne
theorem orL_none (xs : List Int) (h : ∀ i : Nat, i < xs.length → xs.getD i 0 = 0) : orL xs = 0 := by
 rw [orL_drop xs xs.length h, List.drop_length]; rfl
theorem bne_of {b c : Bool} (h : ¬ b = c) : (b != c) = true := by cases b <;> cases c <;> simp_all
def ordM (a b : Mv) : Int := orL [if a.f = b.f then 0 else if a.f = true then 1 else -1, cmpI a.t b.t, cmpI a.x b.x, cmpI a.y b.y]
section
variable {o : Oper} {a : Act} {w : World} {d : Nat} {Q : Exit → Act → World → Prop} {x1 x2 x3 x4 : Operand} {n1 n2 n3 n4 : Int}
theorem op_lit4 (ho : o.op = .buildSlice 41 4 #[(0, x1), (1, x2), (2, x3), (3, x4)]) (hd : o.dst = some d) (h1 : a.eval x1 = .int .i64 n1) (h2 : a.eval x2 = .int .i64 n2) (h3 : a.eval x3 = .int .i64 n3) (h4 : a.eval x4 = .int .i64 n4) (lo : Nat) (hl : lo ≤ w.heap.size) :
  o.wp Tryz.prog a w (Post a w d (isF lo [n1, n2, n3, n4]).p) Q := by
 have key : (execOp a.eval o).run Tryz.prog w = .ok (.value (.slice (some ⟨w.heap.size, 0, none⟩) 4 4)) (w.alloc (.cells (ints [n1, n2, n3, n4]).toArray 3)) := by
  generalize a.eval = ev at h1 h2 h3 h4 ⊢; unfold execOp; simp only [ho]; simp [go_sem, ints, h1, h2, h3, h4]
 unfold Oper.wp; rw [key]; simp only [Oper.upon, hd]; exact ⟨_, rfl, below_alloc (Below.refl _ _) _, w.heap.size, 4, [], rfl, hl, by simp, by omega, by rw [List.append_nil]; exact heap_alloc_new w _⟩
end
set_option maxRecDepth 100000 in
set_option maxHeartbeats 1000000 in
theorem isNaN_got (x : Int) (w : World) :
  Calls Tryz.prog 98 #[.int .i64 x] w (Got w (isV (.bool false)).p) := by
 go_enter Tryz.func98, Tryz.ntmps98
 go_upto_region 1 with fail
 have HE : Hd (Env w []) := ⟨trivial⟩; have HB : Hd (Below w.heap.size w w) := ⟨Below.refl _ _⟩; refine wp_region_vd 3 [3, 4, 5] [0, 1, 2] [] 63 [.int .i64 0, .int .i64 0] [qI x, qI x, qF] (by rfl) alloc_Z ?_ ?_
 ·intro qi qh qA aa wx hb hs hd
  match qi, qh, qA with
  | 0, _, _ => exact aL (op_mv rfl (hs 0 rfl)) | 1, _, _ => exact aL (op_mv rfl (hs 0 rfl)) | 2, _, _ => exact aL (pure_b (bool_eq (by simp)) (⟨_, op_neqI rfl (hd 0 rfl) (hd 1 rfl), rfl⟩)) | qi + 3, h, _ => omega
 intro vs X1 hb hv hal hne; replace HB := Hd.mk (bel_then HB.out hb); replace HE := Hd.mk (HE.out.to hb); have e5 : vs 5 = .bool false := hv 2 (by decide) rfl; simp only [PA, e5]; clear hv hal hne hb e5; go_wp2_with fail
 go_ret
 exact ⟨_, rfl, HB.out, rfl⟩
set_option maxRecDepth 100000 in
theorem Compare_got (x y : Int) (w : World) :
  Calls Tryz.prog 70 #[.int .i64 x, .int .i64 y] w (Got w (isV (.int .i64 (cmpI x y))).p) := by
 have HB : Hd (Below w.heap.size w w) := ⟨Below.refl _ _⟩; by_cases h1 : x < y
 ·rw [show cmpI x y = -1 from if_pos h1]; go_enter Tryz.func70, Tryz.ntmps70
  go_wp2_with (first | (go_at_call 98; refine (isNaN_got _ _).mono ?_; rintro e w' ⟨v, rfl, hb, rfl⟩; replace HB := Hd.mk (bel_then HB.out hb); clear hb) | fail)
  go_ret
  exact ⟨_, rfl, HB.out, rfl⟩
 by_cases h2 : y < x
 ·rw [show cmpI x y = 1 by unfold cmpI; rw [if_neg h1, if_pos h2]]; go_enter Tryz.func70, Tryz.ntmps70
  go_wp2_with (first | (go_at_call 98; refine (isNaN_got _ _).mono ?_; rintro e w' ⟨v, rfl, hb, rfl⟩; replace HB := Hd.mk (bel_then HB.out hb); clear hb) | fail)
  go_ret
  exact ⟨_, rfl, HB.out, rfl⟩
 rw [show cmpI x y = 0 by unfold cmpI; rw [if_neg h1, if_neg h2]]; go_enter Tryz.func70, Tryz.ntmps70
 go_wp2_with (first | (go_at_call 98; refine (isNaN_got _ _).mono ?_; rintro e w' ⟨v, rfl, hb, rfl⟩; replace HB := Hd.mk (bel_then HB.out hb); clear hb) | fail)
 go_ret
 exact ⟨_, rfl, HB.out, rfl⟩
set_option maxRecDepth 100000 in
set_option maxHeartbeats 1000000 in
theorem Or_got (A : Option Addr) (k : Nat) (xs : List Int) (w : World) (hri : RI w A xs) (hln : xs.length ≤ 140737488351232) :
  Calls Tryz.prog 69 #[.slice A xs.length k] w (Got w (isV (.int .i64 (orL xs))).p) := by
 have HRI := Hd.mk hri; clear hri; go_enter Tryz.func69, Tryz.ntmps69
 go_upto_region 1 with fail
 have HE : Hd (Env w []) := ⟨trivial⟩; have HB : Hd (Below w.heap.size w w) := ⟨Below.refl _ _⟩; refine wp_region_vd 0 [] [] [] 63 [.int .i64 0, .int .i64 0] [] (by rfl) alloc_Z ?_ ?_
 ·intro qi qh qA aa wx hb hs hd
  match qi, qh, qA with
  | qi + 0, h, _ => omega
 intro vs X1 hb hv hal hne; replace HB := Hd.mk (bel_then HB.out hb); replace HE := Hd.mk (HE.out.to hb); simp only [PA]; clear hv hal hne hb; go_upto_region 2 with fail
 refine wp_region_vd 3 [6, 7, 8] [0, 2] [] 63 [.int .i64 0, .int .i64 0] [isV (.slice A xs.length k), qI ((xs.length : Nat) : Int), qI 0] (by rfl) alloc_Z ?_ ?_
 ·intro qi qh qA aa wx hb hs hd
  match qi, qh, qA with
  | 0, _, _ => exact aL (op_mv rfl (hs 0 rfl)) | 1, _, _ => exact aL (op_len rfl rfl (hd 0 rfl)) | 2, _, _ => exact aL (op_mv rfl rfl) | qi + 3, h, _ => omega
 intro vs X2 hb hv hal hne; replace HB := Hd.mk (bel_then HB.out hb); replace HE := Hd.mk (HE.out.to hb); have e6 : vs 6 = .slice A xs.length k := hv 0 (by decide) rfl; have e7 : vs 7 = .int .i64 (((xs.length : Nat) : Int)) := hv 1 (by decide) rfl; have e8 : vs 8 = .int .i64 0 := hv 2 (by decide) rfl; simp only [PA, e6, e7, e8]; clear hv hal hne hb e6 e7 e8; go_wp2_with fail
 go_loopw [8] (fun s8 wr => ∃ j : Nat, j ≤ xs.length ∧ s8 = .int .i64 j ∧ (∀ i : Nat, i < j → xs.getD i 0 = 0) ∧ Below w.heap.size w wr) (fun s8 _ => xs.length - (intOf s8).toNat)
 case atStart => exact ⟨0, Nat.zero_le _, rfl, fun i hi => by omega, HB.out⟩
 case round =>
  obtain ⟨j, hjl, rfl, hz, hb⟩ := hrel; have HZ := Hd.mk hz; clear HB HE hz; have HB := Hd.mk hb; have HE : Hd (Env wr []) := ⟨trivial⟩; clear hb; by_cases hj : j < xs.length
  ·obtain ⟨ad, rfl, _⟩ := HRI.out.at_ hj; go_upto_region 4 with fail
   refine wp_region_vd 2 [10, 11] [] [] 63 [.int .i64 0, .int .i64 0] [isV (.pointer (some (Addr.add ad (((j : Nat) : Int)).toNat))), qI (xs.getD j 0)] (by rfl) alloc_Z ?_ ?_
   ·intro qi qh qA aa wx hb hs hd
    match qi, qh, qA with
    | 0, _, _ => exact aL (op_run rfl (op_idx (by omega) (by omega) rfl (hs 6 rfl) (hs 8 rfl) _) rfl) | 1, _, _ => exact aL (op_ldAt rfl rfl (hd 0 rfl) ((HRI.out.to (bel_then HB.out hb)).cellq hj)) | qi + 2, h, _ => omega
   intro vs X1 hb hv hal hne; replace HB := Hd.mk (bel_then HB.out hb); replace HE := Hd.mk (HE.out.to hb); have e11 : vs 11 = .int .i64 (xs.getD j 0) := hv 1 (by decide) rfl; simp only [PA, e11]; clear hv hal hne hb e11; by_cases h0 : xs.getD j 0 = 0
   ·skip
    go_upto_region 5 with fail
    refine wp_region_vd 3 [12, 13, 14] [0, 1, 2] [] 63 [.int .i64 0, .int .i64 0] [qI (xs.getD j 0), qI 0, qF] (by rfl) alloc_Z ?_ ?_
    ·intro qi qh qA aa wx hb hs hd
     match qi, qh, qA with
     | 0, _, _ => exact aL (op_mv rfl (hs 5 rfl)) | 1, _, _ => exact aL (op_mv rfl (hs 3 rfl)) | 2, _, _ => exact aL (pure_b (bool_eq (by rw [h0]; decide)) (⟨_, op_neqI rfl (hd 0 rfl) (hd 1 rfl), rfl⟩)) | qi + 3, h, _ => omega
    intro vs X2 hb hv hal hne; replace HB := Hd.mk (bel_then HB.out hb); replace HE := Hd.mk (HE.out.to hb); have e14 : vs 14 = .bool false := hv 2 (by decide) rfl; simp only [PA, e14]; clear hv hal hne hb e14; go_wp2_with fail
    go_roundw
    case rel => exact ⟨j + 1, by omega, by go_num, fun i hi => by
     by_cases e : i = j
     ·rw [e]; exact h0
     exact HZ.out i (by omega), HB.out⟩
    case measure => simp [intOf]; omega
   have HOR := Hd.mk (orL_hit xs j HZ.out hj h0); go_upto_region 5 with fail
   refine wp_region_vd 3 [12, 13, 14] [0, 1, 2] [] 63 [.int .i64 0, .int .i64 0] [qI (xs.getD j 0), qI 0, qT] (by rfl) alloc_Z ?_ ?_
   ·intro qi qh qA aa wx hb hs hd
    match qi, qh, qA with
    | 0, _, _ => exact aL (op_mv rfl (hs 5 rfl)) | 1, _, _ => exact aL (op_mv rfl (hs 3 rfl)) | 2, _, _ => exact aL (pure_b (bool_eq (by rw [decide_eq_false h0]; rfl)) (⟨_, op_neqI rfl (hd 0 rfl) (hd 1 rfl), rfl⟩)) | qi + 3, h, _ => omega
   intro vs X2 hb hv hal hne; replace HB := Hd.mk (bel_then HB.out hb); replace HE := Hd.mk (HE.out.to hb); have e14 : vs 14 = .bool true := hv 2 (by decide) rfl; simp only [PA, e14]; clear hv hal hne hb e14; go_upto_region 6 with fail
   refine wp_region_vd 1 [15] [0] [] 63 [.int .i64 0, .int .i64 0] [qI (xs.getD j 0)] (by rfl) alloc_Z ?_ ?_
   ·intro qi qh qA aa wx hb hs hd
    match qi, qh, qA with
    | 0, _, _ => exact aL (op_mv rfl (hs 5 rfl)) | qi + 1, h, _ => omega
   intro vs X3 hb hv hal hne; replace HB := Hd.mk (bel_then HB.out hb); replace HE := Hd.mk (HE.out.to hb); have e15 : vs 15 = .int .i64 (xs.getD j 0) := hv 0 (by decide) rfl; simp only [PA, e15]; clear hv hal hne hb e15; go_wp2_with fail
   go_ret
   exact ⟨_, rfl, HB.out, by rw [HOR.out]; rfl⟩
  have e1 : j = xs.length := by omega
  have HOR := Hd.mk (orL_none xs (by rw [← e1]; exact HZ.out)); go_wp2_with fail
  go_ret
  exact ⟨_, rfl, HB.out, by rw [HOR.out]; rfl⟩
set_option maxRecDepth 100000 in
set_option maxHeartbeats 1000000 in
theorem byOrder_got (a b : Mv) (w : World) :
  Calls Tryz.prog 55 #[.agg #[.int .i64 a.x, .int .i64 a.y, .int .i64 a.t, .bool a.f], .agg #[.int .i64 b.x, .int .i64 b.y, .int .i64 b.t, .bool b.f]] w (Got w (isV (.int .i64 (ordM a b))).p) := by
 by_cases h1 : a.f = b.f
 ·have e0 : ordM a b = orL [0, cmpI a.t b.t, cmpI a.x b.x, cmpI a.y b.y] := by unfold ordM; rw [if_pos h1]
  rw [e0]; clear e0; have H1 := Hd.mk h1; clear h1; go_enter Tryz.func55, Tryz.ntmps55
  go_upto_region 1 with fail
  obtain ⟨W0, hW0⟩ : ∃ W : World, W = (w.alloc (.cells #[.int .i64 a.x, .int .i64 a.y, .int .i64 a.t, .bool a.f] 65)).alloc (.cells #[.int .i64 b.x, .int .i64 b.y, .int .i64 b.t, .bool b.f] 65) := ⟨_, rfl⟩; rw [← hW0]; obtain ⟨he, hb⟩ := env_two hW0; have HE := Hd.mk he; have HB := Hd.mk hb; clear he hb hW0; refine wp_region_vd 0 [] [] [] 63 [.int .i64 0, .int .i64 0] [] (by rfl) alloc_Z ?_ ?_
  ·intro qi qh qA aa wx hb hs hd
   match qi, qh, qA with
   | qi + 0, h, _ => omega
  intro vs X1 hb hv hal hne; replace HB := Hd.mk (bel_then HB.out hb); replace HE := Hd.mk (HE.out.to hb); simp only [PA]; clear hv hal hne hb; go_upto_region 2 with fail
  refine wp_region_vd 5 [6, 7, 8, 9, 10] [0, 2, 4] [] 63 [.int .i64 0, .int .i64 0] [isV (.pointer (some ⟨w.heap.size, 3, none⟩)), isV (.bool a.f), isV (.pointer (some ⟨w.heap.size + 1, 3, none⟩)), isV (.bool b.f), qF] (by rfl) alloc_Z ?_ ?_
  ·intro qi qh qA aa wx hb hs hd
   match qi, qh, qA with
   | 0, _, _ => exact aL ⟨_, op_faM3 rfl (hs 2 rfl), rfl⟩ | 1, _, _ => exact aL (op_ldB rfl rfl (hd 0 rfl) ((HE.out.to hb).cell 0 3 rfl rfl)) | 2, _, _ => exact aL ⟨_, op_faM3 rfl (hs 3 rfl), rfl⟩ | 3, _, _ => exact aL (op_ldB rfl rfl (hd 2 rfl) ((HE.out.to hb).cell 1 3 rfl rfl)) | 4, _, _ => exact aL (pure_b (bool_eq (by rw [H1.out]; cases b.f <;> rfl)) (⟨_, op_neqB rfl (hd 1 rfl) (hd 3 rfl), rfl⟩)) | qi + 5, h, _ => omega
  intro vs X2 hb hv hal hne; replace HB := Hd.mk (bel_then HB.out hb); replace HE := Hd.mk (HE.out.to hb); have e10 : vs 10 = .bool false := hv 4 (by decide) rfl; simp only [PA, e10]; clear hv hal hne hb e10; go_upto_region 6 with fail
  refine wp_region_vs 19 [13, 14, 15, 16, 17, 18, 19, 20, 21, 22, 23, 24, 25, 26, 27, 28, 29, 30, 4] [0, 1, 3, 6, 8, 11, 13, 18] [] 63 [.int .i64 0, .int .i64 0] [qI 0, isV (.pointer (some ⟨w.heap.size, 2, none⟩)), qI a.t, isV (.pointer (some ⟨w.heap.size + 1, 2, none⟩)), qI b.t, qI (cmpI a.t b.t), isV (.pointer (some ⟨w.heap.size, 0, none⟩)), qI a.x, isV (.pointer (some ⟨w.heap.size + 1, 0, none⟩)), qI b.x, qI (cmpI a.x b.x), isV (.pointer (some ⟨w.heap.size, 1, none⟩)), qI a.y, isV (.pointer (some ⟨w.heap.size + 1, 1, none⟩)), qI b.y, qI (cmpI a.y b.y), isF X2.heap.size ([0, cmpI a.t b.t, cmpI a.x b.x, cmpI a.y b.y]), qI (orL [0, cmpI a.t b.t, cmpI a.x b.x, cmpI a.y b.y]), qI (orL [0, cmpI a.t b.t, cmpI a.x b.x, cmpI a.y b.y])] (by kernel_rfl) (by kernel_rfl) (by kernel_rfl) (by rfl) alloc_Z (fun d v c a w h => by cases d <;> exact h) ?_ ?_
  ·intro qi qh qA aa wx hb hs hd
   match qi, qh, qA with
   | 0, _, _ => exact op_mv rfl (hs 5 rfl) | 1, _, _ => exact ⟨_, op_faM2 rfl (hs 2 rfl), rfl⟩ | 2, _, _ => exact op_ldI rfl rfl (hd 1 rfl) ((HE.out.to hb).cell 0 2 rfl rfl) | 3, _, _ => exact ⟨_, op_faM2 rfl (hs 3 rfl), rfl⟩ | 4, _, _ => exact op_ldI rfl rfl (hd 3 rfl) ((HE.out.to hb).cell 1 2 rfl rfl) | 5, _, _ => exact op_call2 rfl rfl Tryz.call70 (by rw [(show aa.eval (.tmp 15) = .int .i64 a.t from (hd 2 rfl)), (show aa.eval (.tmp 17) = .int .i64 b.t from (hd 4 rfl))]; exact Compare_got a.t b.t _) | 6, _, _ => exact ⟨_, op_faM0 rfl (hs 2 rfl), rfl⟩ | 7, _, _ => exact op_ldI rfl rfl (hd 6 rfl) ((HE.out.to hb).cell 0 0 rfl rfl) | 8, _, _ => exact ⟨_, op_faM0 rfl (hs 3 rfl), rfl⟩ | 9, _, _ => exact op_ldI rfl rfl (hd 8 rfl) ((HE.out.to hb).cell 1 0 rfl rfl) | 10, _, _ => exact op_call2 rfl rfl Tryz.call70 (by rw [(show aa.eval (.tmp 20) = .int .i64 a.x from (hd 7 rfl)), (show aa.eval (.tmp 22) = .int .i64 b.x from (hd 9 rfl))]; exact Compare_got a.x b.x _) | 11, _, _ => exact ⟨_, op_faM1 rfl (hs 2 rfl), rfl⟩ | 12, _, _ => exact op_ldI rfl rfl (hd 11 rfl) ((HE.out.to hb).cell 0 1 rfl rfl) | 13, _, _ => exact ⟨_, op_faM1 rfl (hs 3 rfl), rfl⟩ | 14, _, _ => exact op_ldI rfl rfl (hd 13 rfl) ((HE.out.to hb).cell 1 1 rfl rfl) | 15, _, _ => exact op_call2 rfl rfl Tryz.call70 (by rw [(show aa.eval (.tmp 25) = .int .i64 a.y from (hd 12 rfl)), (show aa.eval (.tmp 27) = .int .i64 b.y from (hd 14 rfl))]; exact Compare_got a.y b.y _) | 16, _, _ => exact op_lit4 rfl rfl (hd 0 rfl) (hd 5 rfl) (hd 10 rfl) (hd 15 rfl) _ (Nat.le_trans (Nat.le_refl _) hb.size) | 17, _, _ => exact op_call1 rfl rfl Tryz.call69 (by obtain ⟨g, k, rest, e, _, _, _, b⟩ := (hd 16 rfl); rw [show aa.eval (.tmp 29) = _ from e]; exact Or_got _ k _ _ b.ri (by simp)) | 18, _, _ => exact op_asg rfl (hd 17 rfl) | qi + 19, h, _ => omega
  intro vs X3 hb hv hal hne; replace HB := Hd.mk (bel_then HB.out hb); replace HE := Hd.mk (HE.out.to hb); have e4 : vs 4 = .int .i64 (orL [0, cmpI a.t b.t, cmpI a.x b.x, cmpI a.y b.y]) := hv 18 (by decide) rfl; simp only [PA, e4]; clear hv hal hne hb e4; go_wp2_with fail
  go_ret
  exact ⟨_, rfl, HB.out, rfl⟩
 by_cases h2 : a.f = true
 ·have e0 : ordM a b = orL [1, cmpI a.t b.t, cmpI a.x b.x, cmpI a.y b.y] := by unfold ordM; rw [if_neg h1, if_pos h2]
  rw [e0]; clear e0; have H1 := Hd.mk h1; have H2 := Hd.mk h2; clear h1 h2; go_enter Tryz.func55, Tryz.ntmps55
  go_upto_region 1 with fail
  obtain ⟨W0, hW0⟩ : ∃ W : World, W = (w.alloc (.cells #[.int .i64 a.x, .int .i64 a.y, .int .i64 a.t, .bool a.f] 65)).alloc (.cells #[.int .i64 b.x, .int .i64 b.y, .int .i64 b.t, .bool b.f] 65) := ⟨_, rfl⟩; rw [← hW0]; obtain ⟨he, hb⟩ := env_two hW0; have HE := Hd.mk he; have HB := Hd.mk hb; clear he hb hW0; refine wp_region_vd 0 [] [] [] 63 [.int .i64 0, .int .i64 0] [] (by rfl) alloc_Z ?_ ?_
  ·intro qi qh qA aa wx hb hs hd
   match qi, qh, qA with
   | qi + 0, h, _ => omega
  intro vs X1 hb hv hal hne; replace HB := Hd.mk (bel_then HB.out hb); replace HE := Hd.mk (HE.out.to hb); simp only [PA]; clear hv hal hne hb; go_upto_region 2 with fail
  refine wp_region_vd 5 [6, 7, 8, 9, 10] [0, 2, 4] [] 63 [.int .i64 0, .int .i64 0] [isV (.pointer (some ⟨w.heap.size, 3, none⟩)), isV (.bool a.f), isV (.pointer (some ⟨w.heap.size + 1, 3, none⟩)), isV (.bool b.f), qT] (by rfl) alloc_Z ?_ ?_
  ·intro qi qh qA aa wx hb hs hd
   match qi, qh, qA with
   | 0, _, _ => exact aL ⟨_, op_faM3 rfl (hs 2 rfl), rfl⟩ | 1, _, _ => exact aL (op_ldB rfl rfl (hd 0 rfl) ((HE.out.to hb).cell 0 3 rfl rfl)) | 2, _, _ => exact aL ⟨_, op_faM3 rfl (hs 3 rfl), rfl⟩ | 3, _, _ => exact aL (op_ldB rfl rfl (hd 2 rfl) ((HE.out.to hb).cell 1 3 rfl rfl)) | 4, _, _ => exact aL (pure_b (bool_eq (bne_of H1.out)) (⟨_, op_neqB rfl (hd 1 rfl) (hd 3 rfl), rfl⟩)) | qi + 5, h, _ => omega
  intro vs X2 hb hv hal hne; replace HB := Hd.mk (bel_then HB.out hb); replace HE := Hd.mk (HE.out.to hb); have e10 : vs 10 = .bool true := hv 4 (by decide) rfl; simp only [PA, e10]; clear hv hal hne hb e10; go_upto_region 3 with fail
  refine wp_region_vd 0 [] [] [] 63 [.int .i64 0, .int .i64 0] [] (by rfl) alloc_Z ?_ ?_
  ·intro qi qh qA aa wx hb hs hd
   match qi, qh, qA with
   | qi + 0, h, _ => omega
  intro vs X3 hb hv hal hne; replace HB := Hd.mk (bel_then HB.out hb); replace HE := Hd.mk (HE.out.to hb); simp only [PA]; clear hv hal hne hb; go_upto_region 4 with fail
  refine wp_region_vd 2 [11, 12] [0] [] 63 [.int .i64 0, .int .i64 0] [isV (.pointer (some ⟨w.heap.size, 3, none⟩)), qT] (by rfl) alloc_Z ?_ ?_
  ·intro qi qh qA aa wx hb hs hd
   match qi, qh, qA with
   | 0, _, _ => exact aL ⟨_, op_faM3 rfl (hs 2 rfl), rfl⟩ | 1, _, _ => exact aL (wp_b (bool_eq H2.out) (op_ldB rfl rfl (hd 0 rfl) ((HE.out.to hb).cell 0 3 rfl rfl))) | qi + 2, h, _ => omega
  intro vs X4 hb hv hal hne; replace HB := Hd.mk (bel_then HB.out hb); replace HE := Hd.mk (HE.out.to hb); have e12 : vs 12 = .bool true := hv 1 (by decide) rfl; simp only [PA, e12]; clear hv hal hne hb e12; go_upto_region 5 with fail
  refine wp_region_vd 0 [] [] [] 63 [.int .i64 0, .int .i64 0] [] (by rfl) alloc_Z ?_ ?_
  ·intro qi qh qA aa wx hb hs hd
   match qi, qh, qA with
   | qi + 0, h, _ => omega
  intro vs X5 hb hv hal hne; replace HB := Hd.mk (bel_then HB.out hb); replace HE := Hd.mk (HE.out.to hb); simp only [PA]; clear hv hal hne hb; go_upto_region 6 with fail
  refine wp_region_vs 19 [13, 14, 15, 16, 17, 18, 19, 20, 21, 22, 23, 24, 25, 26, 27, 28, 29, 30, 4] [0, 1, 3, 6, 8, 11, 13, 18] [] 63 [.int .i64 0, .int .i64 0] [qI 1, isV (.pointer (some ⟨w.heap.size, 2, none⟩)), qI a.t, isV (.pointer (some ⟨w.heap.size + 1, 2, none⟩)), qI b.t, qI (cmpI a.t b.t), isV (.pointer (some ⟨w.heap.size, 0, none⟩)), qI a.x, isV (.pointer (some ⟨w.heap.size + 1, 0, none⟩)), qI b.x, qI (cmpI a.x b.x), isV (.pointer (some ⟨w.heap.size, 1, none⟩)), qI a.y, isV (.pointer (some ⟨w.heap.size + 1, 1, none⟩)), qI b.y, qI (cmpI a.y b.y), isF X5.heap.size ([1, cmpI a.t b.t, cmpI a.x b.x, cmpI a.y b.y]), qI (orL [1, cmpI a.t b.t, cmpI a.x b.x, cmpI a.y b.y]), qI (orL [1, cmpI a.t b.t, cmpI a.x b.x, cmpI a.y b.y])] (by kernel_rfl) (by kernel_rfl) (by kernel_rfl) (by rfl) alloc_Z (fun d v c a w h => by cases d <;> exact h) ?_ ?_
  ·intro qi qh qA aa wx hb hs hd
   match qi, qh, qA with
   | 0, _, _ => exact op_mv rfl (hs 5 rfl) | 1, _, _ => exact ⟨_, op_faM2 rfl (hs 2 rfl), rfl⟩ | 2, _, _ => exact op_ldI rfl rfl (hd 1 rfl) ((HE.out.to hb).cell 0 2 rfl rfl) | 3, _, _ => exact ⟨_, op_faM2 rfl (hs 3 rfl), rfl⟩ | 4, _, _ => exact op_ldI rfl rfl (hd 3 rfl) ((HE.out.to hb).cell 1 2 rfl rfl) | 5, _, _ => exact op_call2 rfl rfl Tryz.call70 (by rw [(show aa.eval (.tmp 15) = .int .i64 a.t from (hd 2 rfl)), (show aa.eval (.tmp 17) = .int .i64 b.t from (hd 4 rfl))]; exact Compare_got a.t b.t _) | 6, _, _ => exact ⟨_, op_faM0 rfl (hs 2 rfl), rfl⟩ | 7, _, _ => exact op_ldI rfl rfl (hd 6 rfl) ((HE.out.to hb).cell 0 0 rfl rfl) | 8, _, _ => exact ⟨_, op_faM0 rfl (hs 3 rfl), rfl⟩ | 9, _, _ => exact op_ldI rfl rfl (hd 8 rfl) ((HE.out.to hb).cell 1 0 rfl rfl) | 10, _, _ => exact op_call2 rfl rfl Tryz.call70 (by rw [(show aa.eval (.tmp 20) = .int .i64 a.x from (hd 7 rfl)), (show aa.eval (.tmp 22) = .int .i64 b.x from (hd 9 rfl))]; exact Compare_got a.x b.x _) | 11, _, _ => exact ⟨_, op_faM1 rfl (hs 2 rfl), rfl⟩ | 12, _, _ => exact op_ldI rfl rfl (hd 11 rfl) ((HE.out.to hb).cell 0 1 rfl rfl) | 13, _, _ => exact ⟨_, op_faM1 rfl (hs 3 rfl), rfl⟩ | 14, _, _ => exact op_ldI rfl rfl (hd 13 rfl) ((HE.out.to hb).cell 1 1 rfl rfl) | 15, _, _ => exact op_call2 rfl rfl Tryz.call70 (by rw [(show aa.eval (.tmp 25) = .int .i64 a.y from (hd 12 rfl)), (show aa.eval (.tmp 27) = .int .i64 b.y from (hd 14 rfl))]; exact Compare_got a.y b.y _) | 16, _, _ => exact op_lit4 rfl rfl (hd 0 rfl) (hd 5 rfl) (hd 10 rfl) (hd 15 rfl) _ (Nat.le_trans (Nat.le_refl _) hb.size) | 17, _, _ => exact op_call1 rfl rfl Tryz.call69 (by obtain ⟨g, k, rest, e, _, _, _, b⟩ := (hd 16 rfl); rw [show aa.eval (.tmp 29) = _ from e]; exact Or_got _ k _ _ b.ri (by simp)) | 18, _, _ => exact op_asg rfl (hd 17 rfl) | qi + 19, h, _ => omega
  intro vs X6 hb hv hal hne; replace HB := Hd.mk (bel_then HB.out hb); replace HE := Hd.mk (HE.out.to hb); have e4 : vs 4 = .int .i64 (orL [1, cmpI a.t b.t, cmpI a.x b.x, cmpI a.y b.y]) := hv 18 (by decide) rfl; simp only [PA, e4]; clear hv hal hne hb e4; go_wp2_with fail
  go_ret
  exact ⟨_, rfl, HB.out, rfl⟩
 have h3 : a.f = false := by simpa using h2
 have e0 : ordM a b = orL [(-1), cmpI a.t b.t, cmpI a.x b.x, cmpI a.y b.y] := by unfold ordM; rw [if_neg h1, if_neg h2]
 rw [e0]; clear e0; have H1 := Hd.mk h1; have H3 := Hd.mk h3; clear h1 h2 h3; go_enter Tryz.func55, Tryz.ntmps55
 go_upto_region 1 with fail
 obtain ⟨W0, hW0⟩ : ∃ W : World, W = (w.alloc (.cells #[.int .i64 a.x, .int .i64 a.y, .int .i64 a.t, .bool a.f] 65)).alloc (.cells #[.int .i64 b.x, .int .i64 b.y, .int .i64 b.t, .bool b.f] 65) := ⟨_, rfl⟩; rw [← hW0]; obtain ⟨he, hb⟩ := env_two hW0; have HE := Hd.mk he; have HB := Hd.mk hb; clear he hb hW0; refine wp_region_vd 0 [] [] [] 63 [.int .i64 0, .int .i64 0] [] (by rfl) alloc_Z ?_ ?_
 ·intro qi qh qA aa wx hb hs hd
  match qi, qh, qA with
  | qi + 0, h, _ => omega
 intro vs X1 hb hv hal hne; replace HB := Hd.mk (bel_then HB.out hb); replace HE := Hd.mk (HE.out.to hb); simp only [PA]; clear hv hal hne hb; go_upto_region 2 with fail
 refine wp_region_vd 5 [6, 7, 8, 9, 10] [0, 2, 4] [] 63 [.int .i64 0, .int .i64 0] [isV (.pointer (some ⟨w.heap.size, 3, none⟩)), isV (.bool a.f), isV (.pointer (some ⟨w.heap.size + 1, 3, none⟩)), isV (.bool b.f), qT] (by rfl) alloc_Z ?_ ?_
 ·intro qi qh qA aa wx hb hs hd
  match qi, qh, qA with
  | 0, _, _ => exact aL ⟨_, op_faM3 rfl (hs 2 rfl), rfl⟩ | 1, _, _ => exact aL (op_ldB rfl rfl (hd 0 rfl) ((HE.out.to hb).cell 0 3 rfl rfl)) | 2, _, _ => exact aL ⟨_, op_faM3 rfl (hs 3 rfl), rfl⟩ | 3, _, _ => exact aL (op_ldB rfl rfl (hd 2 rfl) ((HE.out.to hb).cell 1 3 rfl rfl)) | 4, _, _ => exact aL (pure_b (bool_eq (bne_of H1.out)) (⟨_, op_neqB rfl (hd 1 rfl) (hd 3 rfl), rfl⟩)) | qi + 5, h, _ => omega
 intro vs X2 hb hv hal hne; replace HB := Hd.mk (bel_then HB.out hb); replace HE := Hd.mk (HE.out.to hb); have e10 : vs 10 = .bool true := hv 4 (by decide) rfl; simp only [PA, e10]; clear hv hal hne hb e10; go_upto_region 3 with fail
 refine wp_region_vd 0 [] [] [] 63 [.int .i64 0, .int .i64 0] [] (by rfl) alloc_Z ?_ ?_
 ·intro qi qh qA aa wx hb hs hd
  match qi, qh, qA with
  | qi + 0, h, _ => omega
 intro vs X3 hb hv hal hne; replace HB := Hd.mk (bel_then HB.out hb); replace HE := Hd.mk (HE.out.to hb); simp only [PA]; clear hv hal hne hb; go_upto_region 4 with fail
 refine wp_region_vd 2 [11, 12] [0] [] 63 [.int .i64 0, .int .i64 0] [isV (.pointer (some ⟨w.heap.size, 3, none⟩)), qF] (by rfl) alloc_Z ?_ ?_
 ·intro qi qh qA aa wx hb hs hd
  match qi, qh, qA with
  | 0, _, _ => exact aL ⟨_, op_faM3 rfl (hs 2 rfl), rfl⟩ | 1, _, _ => exact aL (wp_b (bool_eq H3.out) (op_ldB rfl rfl (hd 0 rfl) ((HE.out.to hb).cell 0 3 rfl rfl))) | qi + 2, h, _ => omega
 intro vs X4 hb hv hal hne; replace HB := Hd.mk (bel_then HB.out hb); replace HE := Hd.mk (HE.out.to hb); have e12 : vs 12 = .bool false := hv 1 (by decide) rfl; simp only [PA, e12]; clear hv hal hne hb e12; go_upto_region 6 with fail
 refine wp_region_vs 19 [13, 14, 15, 16, 17, 18, 19, 20, 21, 22, 23, 24, 25, 26, 27, 28, 29, 30, 4] [0, 1, 3, 6, 8, 11, 13, 18] [] 63 [.int .i64 0, .int .i64 0] [qI (-1), isV (.pointer (some ⟨w.heap.size, 2, none⟩)), qI a.t, isV (.pointer (some ⟨w.heap.size + 1, 2, none⟩)), qI b.t, qI (cmpI a.t b.t), isV (.pointer (some ⟨w.heap.size, 0, none⟩)), qI a.x, isV (.pointer (some ⟨w.heap.size + 1, 0, none⟩)), qI b.x, qI (cmpI a.x b.x), isV (.pointer (some ⟨w.heap.size, 1, none⟩)), qI a.y, isV (.pointer (some ⟨w.heap.size + 1, 1, none⟩)), qI b.y, qI (cmpI a.y b.y), isF X4.heap.size ([(-1), cmpI a.t b.t, cmpI a.x b.x, cmpI a.y b.y]), qI (orL [(-1), cmpI a.t b.t, cmpI a.x b.x, cmpI a.y b.y]), qI (orL [(-1), cmpI a.t b.t, cmpI a.x b.x, cmpI a.y b.y])] (by kernel_rfl) (by kernel_rfl) (by kernel_rfl) (by rfl) alloc_Z (fun d v c a w h => by cases d <;> exact h) ?_ ?_
 ·intro qi qh qA aa wx hb hs hd
  match qi, qh, qA with
  | 0, _, _ => exact op_mv rfl (hs 5 rfl) | 1, _, _ => exact ⟨_, op_faM2 rfl (hs 2 rfl), rfl⟩ | 2, _, _ => exact op_ldI rfl rfl (hd 1 rfl) ((HE.out.to hb).cell 0 2 rfl rfl) | 3, _, _ => exact ⟨_, op_faM2 rfl (hs 3 rfl), rfl⟩ | 4, _, _ => exact op_ldI rfl rfl (hd 3 rfl) ((HE.out.to hb).cell 1 2 rfl rfl) | 5, _, _ => exact op_call2 rfl rfl Tryz.call70 (by rw [(show aa.eval (.tmp 15) = .int .i64 a.t from (hd 2 rfl)), (show aa.eval (.tmp 17) = .int .i64 b.t from (hd 4 rfl))]; exact Compare_got a.t b.t _) | 6, _, _ => exact ⟨_, op_faM0 rfl (hs 2 rfl), rfl⟩ | 7, _, _ => exact op_ldI rfl rfl (hd 6 rfl) ((HE.out.to hb).cell 0 0 rfl rfl) | 8, _, _ => exact ⟨_, op_faM0 rfl (hs 3 rfl), rfl⟩ | 9, _, _ => exact op_ldI rfl rfl (hd 8 rfl) ((HE.out.to hb).cell 1 0 rfl rfl) | 10, _, _ => exact op_call2 rfl rfl Tryz.call70 (by rw [(show aa.eval (.tmp 20) = .int .i64 a.x from (hd 7 rfl)), (show aa.eval (.tmp 22) = .int .i64 b.x from (hd 9 rfl))]; exact Compare_got a.x b.x _) | 11, _, _ => exact ⟨_, op_faM1 rfl (hs 2 rfl), rfl⟩ | 12, _, _ => exact op_ldI rfl rfl (hd 11 rfl) ((HE.out.to hb).cell 0 1 rfl rfl) | 13, _, _ => exact ⟨_, op_faM1 rfl (hs 3 rfl), rfl⟩ | 14, _, _ => exact op_ldI rfl rfl (hd 13 rfl) ((HE.out.to hb).cell 1 1 rfl rfl) | 15, _, _ => exact op_call2 rfl rfl Tryz.call70 (by rw [(show aa.eval (.tmp 25) = .int .i64 a.y from (hd 12 rfl)), (show aa.eval (.tmp 27) = .int .i64 b.y from (hd 14 rfl))]; exact Compare_got a.y b.y _) | 16, _, _ => exact op_lit4 rfl rfl (hd 0 rfl) (hd 5 rfl) (hd 10 rfl) (hd 15 rfl) _ (Nat.le_trans (Nat.le_refl _) hb.size) | 17, _, _ => exact op_call1 rfl rfl Tryz.call69 (by obtain ⟨g, k, rest, e, _, _, _, b⟩ := (hd 16 rfl); rw [show aa.eval (.tmp 29) = _ from e]; exact Or_got _ k _ _ b.ri (by simp)) | 18, _, _ => exact op_asg rfl (hd 17 rfl) | qi + 19, h, _ => omega
 intro vs X5 hb hv hal hne; replace HB := Hd.mk (bel_then HB.out hb); replace HE := Hd.mk (HE.out.to hb); have e4 : vs 4 = .int .i64 (orL [(-1), cmpI a.t b.t, cmpI a.x b.x, cmpI a.y b.y]) := hv 18 (by decide) rfl; simp only [PA, e4]; clear hv hal hne hb e4; go_wp2_with fail
 go_ret
 exact ⟨_, rfl, HB.out, rfl⟩
structure Bel (w w' : World) : Prop where
 b : Below w.heap.size w w'
 d : w.drawn ≤ w'.drawn
theorem Bel.refl (w : World) : Bel w w := ⟨Below.refl _ _, Nat.le_refl _⟩
theorem Bel.trans {w w1 w2 : World} (h : Bel w w1) (k : Bel w1 w2) : Bel w w2 := ⟨bel_then h.b k.b, Nat.le_trans h.d k.d⟩
theorem Bel.drew {w w1 : World} (h : Bel w w1) : Bel w w1.drew := ⟨below_drew h.b, Nat.le_trans h.d (Nat.le_succ _)⟩
theorem Bel.alloc {w w1 : World} (h : Bel w w1) (o : Obj) : Bel w (w1.alloc o) := ⟨below_alloc h.b o, h.d⟩
theorem Bel.grow {w w' : World} (h : Bel w w') : ∃ q os, w' = Go.Sort.grow (w.drewN q) os := by
 refine ⟨w'.drawn - w.drawn, w'.heap.extract w.heap.size w'.heap.size, ?_⟩; obtain ⟨⟨hos, htape, hout, hsize, hblock⟩, hd⟩ := h; obtain ⟨heap', tape', drawn', os', output'⟩ := w'; obtain ⟨heap, tape, drawn, os, output⟩ := w; simp only at hos htape hout hsize hblock hd; subst hos htape hout; unfold Go.Sort.grow World.drewN; simp only [World.mk.injEq, and_true, true_and]; refine ⟨?_, by omega⟩; refine Array.ext_getElem? fun i => ?_
 by_cases hi : i < heap.size
 ·rw [Array.getElem?_append_left hi]; exact hblock i hi
 rw [Array.getElem?_append_right (by omega), Array.getElem?_extract]; by_cases h2 : i < heap'.size
 ·rw [if_pos (by omega)]; congr 1
  omega
 rw [if_neg (by omega), Array.getElem?_eq_none (by omega)]
def PostG (a : Act) (w : World) (d : Nat) (R : Value → World → Prop) : Act → World → Prop := fun a' w' => ∃ v, a' = a.put (some d) v ∧ Bel w w' ∧ R v w'
def GotG (w : World) (R : Value → World → Prop) (e : Ending) (w' : World) : Prop := ∃ v, e = .returned v ∧ Bel w w' ∧ R v w'
section
variable {P : Program} {Q : Exit → Act → World → Prop}
theorem wp_region_gars {id : Nat} (n1 : Nat) {l : List Oper} {a0 : Act} {w0 : World} (ds E AL : List Nat) (T : TypeId) (z : List Value) (V : Nat → Value → World → Prop) (C : Nat → World → Prop)
  (hm : P.follows .mixedOrders = true) (hns : Region.noSelect l.toArray = true) (hB : phaseB l.toArray n1 E = true) (hF : freeB l.toArray E = true) (hD : VarB l n1 ds E AL T a0.tmps.size = true)
  (hCt : ∀ i ∈ E, ∀ j ∈ E, j ∈ edgesOf l.toArray i → ∀ w, C j w) (hC0 : ∀ i ∈ E, ∀ w, Bel w0 w → C i w)
  (hz : ∀ w : World, (Instr.alloc T true (.tuple #[])).run P w = .ok (.pointer (some ⟨w.heap.size, 0, none⟩)) (w.alloc (.cells z.toArray T)))
  (hQ : ∀ d v c a w, Q (.panic c) (a.put d v) w → Q (.panic c) a w)
  (hV : ∀ i v w w', V i v w → Below w.heap.size w w' → V i v w')
  (hop : ∀ i, i < n1 → AL.contains i = false → ∀ a w, Bel w0 w → (∀ t, ds.contains t = false → a.eval (.tmp t) = a0.eval (.tmp t)) → Deps l ds AL V i a w →
   match l[i]? with | none => True | some o => if E.contains i then ∃ v, (∀ w, C i w → (execOp a.eval o).run P w = .ok (.value v) w) ∧ V i v w else o.wp P a w (PostG a w (ds.getD i 0) (V i)) Q)
  (hend : ∀ (vs : Nat → Value) (w : World), Bel w0 w → (∀ i, i < n1 → AL.contains i = false → V i (vs (ds.getD i 0)) w) →
   (∀ i, AL.contains i = true → ∃ g, vs (ds.getD i 0) = .pointer (some ⟨g, 0, none⟩) ∧ w0.heap.size ≤ g ∧ Blk w g T z) → (∀ i j, AL.contains i = true → AL.contains j = true → i ≠ j → vs (ds.getD i 0) ≠ vs (ds.getD j 0)) → wpListS P l.toArray Q E C n1 (l.drop n1) (putAll a0 ds vs) w) :
  (Code.region id l.toArray true).wp P Q a0 w0 := by
 unfold VarB at hD; simp only [Bool.and_eq_true, decide_eq_true_eq, List.all_eq_true, List.mem_range] at hD; obtain ⟨⟨⟨⟨⟨⟨hdl, hnl⟩, hdt⟩, hnd⟩, hEE⟩, hAA⟩, hops⟩ := hD
 have hop1 : ∀ i, i < n1 → ∃ o, l[i]? = some o ∧ o.dst = some (ds.getD i 0) ∧ o.guard = none ∧ (AL.contains i = true → o.op = .alloc T) := by
  intro i hi; have h := hops i hi
  cases ho : l[i]? with
  | none => rw [ho] at h; cases h
  | some o =>
   rw [ho] at h; simp only [Bool.and_eq_true, decide_eq_true_eq, Bool.or_eq_true, Bool.not_eq_true', Option.isNone_iff_eq_none] at h; refine ⟨o, rfl, h.1.1, h.1.2, fun hA => ?_⟩; rcases h.2 with h2 | h2
   ·rw [hA] at h2; cases h2
   revert h2
   cases o.op <;> simp
 have hdi : ∀ i, i < n1 → ds.getD i 0 < a0.tmps.size := by
  intro i hi
  have : ds.getD i 0 ∈ ds := by
   rw [List.getD_eq_getElem?_getD, List.getElem?_eq_getElem (by omega)]; exact List.getElem_mem _
  exact hdt _ this
 let F : Nat → Value → World → Prop := fun i v w => if AL.contains i then ∃ g, v = .pointer (some ⟨g, 0, none⟩) ∧ w0.heap.size ≤ g ∧ Blk w g T z else V i v w
 have hFs : ∀ i v w w', F i v w → Below w.heap.size w w' → F i v w' := by
  intro i v w w' h hb; show if _ then _ else _
  have h' : if _ then _ else _ := h
  split at h'
  ·next hA =>
   rw [if_pos hA]; obtain ⟨g, h1, h2, h3⟩ := h'; exact ⟨g, h1, h2, h3.to hb⟩
  next hA => rw [if_neg hA]; exact hV _ _ _ _ h' hb
 let I : Array Bool → Act → World → Prop := fun L a w => Bel w0 w ∧ L.size = l.length ∧ a.defers = a0.defers ∧ a.tmps.size = a0.tmps.size ∧ (∀ t, t ∉ ds → a0.tmps[t]? = a.tmps[t]?) ∧
  (∀ i, i < n1 → L.getD i false = true → F i (a.eval (.tmp (ds.getD i 0))) w) ∧
  (∀ i j, AL.contains i = true → AL.contains j = true → i ≠ j → L.getD i false = true → L.getD j false = true → a.eval (.tmp (ds.getD i 0)) ≠ a.eval (.tmp (ds.getD j 0)))
 have hAlt : ∀ i, AL.contains i = true → i < n1 := fun i h => hAA i (by simpa using h)
 -- an operation that is no new variable
 have key : ∀ L a w i v w', I L a w → i < n1 → Bel w w' → F i v w' → (AL.contains i = true → ∀ j, AL.contains j = true → i ≠ j → L.getD j false = true → v ≠ a.eval (.tmp (ds.getD j 0))) → I (L.setIfInBounds i true) (a.put (some (ds.getD i 0)) v) w' := by
  intro L a w i v w' ⟨hb, hsz, hdf, hts, hot, hf, hne⟩ hi hb' hv hd; refine ⟨hb.trans hb', by simp [hsz], hdf, by simp [Act.put, hts], fun t ht => ?_, fun j hj hL => ?_, fun j k hj hk hjk hLj hLk => ?_⟩
  ·have : ds.getD i 0 ≠ t := fun e => ht (by rw [← e, List.getD_eq_getElem?_getD, List.getElem?_eq_getElem (by omega)]; exact List.getElem_mem _)
   show _ = (a.tmps.setIfInBounds _ _)[t]?; rw [Array.getElem?_setIfInBounds_ne this]; exact hot t ht
  ·by_cases hij : j = i
   ·subst hij; rw [eval_put_same (by rw [hts]; exact hdi _ hi)]; exact hv
   rw [eval_put_other (nodup_ne hnd (by omega) (by omega) (Ne.symm hij))]; rw [set_getD _ (by omega), if_neg hij] at hL; exact hFs _ _ _ _ (hf j hj hL) hb'.b
  have hjn := hAlt j hj; have hkn := hAlt k hk; by_cases hji : j = i
  ·subst hji; rw [eval_put_same (by rw [hts]; exact hdi _ hi), eval_put_other (nodup_ne hnd (by omega) (by omega) hjk)]; rw [set_getD _ (by omega), if_neg (Ne.symm hjk)] at hLk; exact hd hj k hk hjk hLk
  by_cases hki : k = i
  ·subst hki; rw [eval_put_same (by rw [hts]; exact hdi _ hi), eval_put_other (nodup_ne hnd (by omega) (by omega) (Ne.symm hji))]; rw [set_getD _ (by omega), if_neg hji] at hLj; exact Ne.symm (hd hk j hj (Ne.symm hjk) hLj)
  rw [eval_put_other (nodup_ne hnd (by omega) (by omega) (Ne.symm hji)), eval_put_other (nodup_ne hnd (by omega) (by omega) (Ne.symm hki))]; rw [set_getD _ (by omega), if_neg hji] at hLj; rw [set_getD _ (by omega), if_neg hki] at hLk; exact hne j k hj hk hjk hLj hLk
 have hpre : ∀ L a w i o, I L a w → i < n1 → i ∈ Region.ready .any l.toArray L → l[i]? = some o → (∀ t, ds.contains t = false → a.eval (.tmp t) = a0.eval (.tmp t)) ∧ Deps l ds AL V i a w := by
  intro L a w i o ⟨hb, hsz, hdf, hts, hot, hf, hne⟩ hi hr ho; obtain ⟨_, o', ho', hall⟩ := mem_ready.1 hr; have : o' = o := by simpa [ho] using ho'.symm
  subst this; refine ⟨fun t ht => ?_, fun j hj => ?_⟩
  ·have := hot t (by simpa using ht); show a.tmps.getD t undef = a0.tmps.getD t undef; simp only [Array.getD_eq_getD_getElem?, this]
  rw [ho] at hj; simp only [Option.map_some, Option.getD_some, Bool.and_eq_true, Bool.not_eq_true', List.any_eq_true, decide_eq_true_eq] at hj; obtain ⟨⟨e, he, hbd, heq⟩, hA⟩ := hj; have hj1 : j < i := by rw [← heq]; exact (phaseB_back hB ho').1 e (by simpa using he) hbd
  have h1 := hf j (by omega) (by rw [← heq]; exact hall e (by simpa using he) hbd); have h2 : if AL.contains j then _ else _ := h1
  rw [if_neg (by rw [hA]; simp)] at h2; exact h2
 refine wp_region_phase (n1 := n1) E C hm hns hB hF (fun i hi => by have := hEE i hi; simp at this; exact this.1) hCt hnl hQ I ?_ (fun L a w h i hi => hC0 i hi w h.1) ?_ ?_ ?_
 ·refine ⟨(Bel.refl _).drew, by simp, rfl, rfl, fun _ _ => rfl, fun i hi hL => ?_, fun i j _ _ _ hL _ => ?_⟩
  ·rw [rep_getD] at hL; cases hL
  rw [rep_getD] at hL; cases hL
 ·intro L a w i o hI hi hr ho; have hEi := hEE i hi; simp only [Bool.and_eq_true, decide_eq_true_eq, Bool.not_eq_true'] at hEi; obtain ⟨h1, h2⟩ := hpre L a w i o hI hEi.1 hr ho; have h3 := hop i hEi.1 hEi.2 a w hI.1 h1 h2; rw [ho] at h3; simp only at h3; rw [if_pos (by simpa using hi)] at h3; obtain ⟨v, hy, hv⟩ := h3; obtain ⟨o', ho', hdst, hg, _⟩ := hop1 i hEi.1; have : o' = o := by rw [ho] at ho'; exact (Option.some.inj ho').symm
  subst this; refine ⟨v, .inl ⟨by simp [Region.wanted, hg], hy⟩, ?_⟩; rw [hdst]; exact key L a w i v w hI hEi.1 (Bel.refl _) (by show if _ then _ else _; rw [if_neg (by rw [hEi.2]; simp)]; exact hv) (fun h => by rw [hEi.2] at h; cases h)
 ·intro L a w i hI hi hE hr; obtain ⟨o, ho, hdst, hg, hal⟩ := hop1 i hi; obtain ⟨h1, h2⟩ := hpre L a w i o hI hi hr ho; unfold wpOp; have ho2 : l.toArray[i]? = some o := by simpa using ho
  rw [ho2]; simp only; rw [if_pos (by simp [Region.wanted, hg])]; refine .inl ?_; by_cases hA : AL.contains i = true
  ·unfold Oper.wp execOp; simp only [hal hA, Sem.run_bind, hz, Result.andThen_ok, Sem.run_pure, Oper.upon, hdst]; refine key L a w i _ _ hI hi ((Bel.refl _).alloc _) ?_ ?_
   ·show if _ then _ else _
    rw [if_pos hA]; exact ⟨_, rfl, hI.1.b.size, heap_alloc_new _ _⟩
   intro _ j hj hij hL; have h3 : if AL.contains j then _ else _ := hI.2.2.2.2.2.1 j (hAlt j hj) hL
   rw [if_pos hj] at h3; obtain ⟨g, hg1, _, hg2⟩ := h3; rw [hg1]; intro he; have := hg2.lt; injection he with he
   injection he with he
   injection he with he
   omega
  have hA' : AL.contains i = false := by simpa using hA
  have h3 := hop i hi hA' a w hI.1 h1 h2; rw [ho] at h3; simp only at h3; rw [if_neg (by simpa using hE)] at h3; refine Oper.wp_mono (fun a' w' h => ?_) h3; obtain ⟨v, rfl, hb', hv⟩ := h; exact key L a w i v w' hI hi hb' (by show if _ then _ else _; rw [if_neg hA]; exact hv) (fun h => absurd h hA)
 intro L a w hI hall; obtain ⟨hb, hsz, hdf, hts, hot, hf, hne⟩ := hI; have he := putAll_eq (a := a) ds a0 hdf.symm hts.symm (fun d hd => by rw [hts]; exact hdt d hd) hot; rw [← he]; refine hend (fun t => a.eval (.tmp t)) w hb (fun i hi hA => ?_) (fun i hA => ?_) (fun i j hi hj hij => hne i j hi hj hij (hall i (hAlt i hi)) (hall j (hAlt j hj)))
 ·have h3 : if AL.contains i then _ else _ := hf i hi (hall i hi)
  rw [if_neg (by rw [hA]; simp)] at h3; exact h3
 have h3 : if AL.contains i then _ else _ := hf i (hAlt i hA) (hall i (hAlt i hA))
 rw [if_pos hA] at h3; exact h3
end
section
variable {Q : Exit → Act → World → Prop} {id : Nat} {l : List Oper} {a0 : Act} {w0 : World}
theorem wp_region_gs (n1 : Nat) (ds E AL : List Nat) (T : TypeId) (z : List Value) (Vs : List SP)
  (hns : Region.noSelect l.toArray = true) (hB : phaseB l.toArray n1 E = true) (hF : freeB l.toArray E = true) (hD : VarB l n1 ds E AL T a0.tmps.size = true)
  (hz : ∀ w : World, (Instr.alloc T true (.tuple #[])).run Tryz.prog w = .ok (.pointer (some ⟨w.heap.size, 0, none⟩)) (w.alloc (.cells z.toArray T)))
  (hQ : ∀ d v c a w, Q (.panic c) (a.put d v) w → Q (.panic c) a w)
  (hop : ∀ i, i < n1 → AL.contains i = false → ∀ a w, Bel w0 w → (∀ t, ds.contains t = false → a.eval (.tmp t) = a0.eval (.tmp t)) → Deps l ds AL (vp Vs) i a w →
   match l[i]? with | none => True | some o => if E.contains i then ∃ v, (∀ w, (execOp a.eval o).run Tryz.prog w = .ok (.value v) w) ∧ vp Vs i v w else o.wp Tryz.prog a w (PostG a w (ds.getD i 0) (vp Vs i)) Q)
  (hend : ∀ (vs : Nat → Value) (w : World), Bel w0 w → (∀ i, i < n1 → AL.contains i = false → vp Vs i (vs (ds.getD i 0)) w) →
   (∀ i, AL.contains i = true → ∃ g, vs (ds.getD i 0) = .pointer (some ⟨g, 0, none⟩) ∧ w0.heap.size ≤ g ∧ Blk w g T z) → (∀ i j, AL.contains i = true → AL.contains j = true → i ≠ j → vs (ds.getD i 0) ≠ vs (ds.getD j 0)) → wpList Tryz.prog l.toArray Q (l.drop n1) (putAll a0 ds vs) w) :
  (Code.region id l.toArray true).wp Tryz.prog Q a0 w0 := by
 refine wp_region_gars n1 ds E AL T z (vp Vs) (fun _ _ => True) mixed_ hns hB hF hD (fun _ _ _ _ _ _ => trivial) (fun _ _ _ _ => trivial) hz hQ (fun i v w w' h hb => (Vs.getD i SP.any).st v w w' h hb) ?_ (fun vs w h1 h2 h3 h4 => wpListS_plain _ _ _ _ (fun _ _ _ => trivial) (hend vs w h1 h2 h3 h4)); intro i hi hA a w hb hs hd; have h := hop i hi hA a w hb hs hd
 cases ho : l[i]? with
 | none => trivial
 | some o =>
  rw [ho] at h; simp only at h ⊢; split at h
  ·next h1 =>
   rw [if_pos h1]; obtain ⟨v, h2, h3⟩ := h; exact ⟨v, fun w _ => h2 w, h3⟩
  next h1 =>
  rw [if_neg h1]; exact h
theorem wp_region_gd {id : Nat} {l : List Oper} {a0 : Act} {w0 : World} {Q : Exit → Act → World → Prop} (n1 : Nat) (ds E AL : List Nat) (T : TypeId) (z : List Value) (Vs : List SP)
  (hD : VarG l n1 ds E AL T a0.tmps.size = true)
  (hz : ∀ w : World, (Instr.alloc T true (.tuple #[])).run Tryz.prog w = .ok (.pointer (some ⟨w.heap.size, 0, none⟩)) (w.alloc (.cells z.toArray T)))
  (hop : ∀ i, i < n1 → AL.contains i = false → ∀ a w, Bel w0 w → (∀ t, ds.contains t = false → a.eval (.tmp t) = a0.eval (.tmp t)) → DepsD ds AL (vp Vs) i a w →
   match l[i]? with | none => True | some o => (WantG l ds o a true ∧ if E.contains i then ∃ v, (∀ w, (execOp a.eval o).run Tryz.prog w = .ok (.value v) w) ∧ vp Vs i v w else o.wp Tryz.prog a w (PostG a w (ds.getD i 0) (vp Vs i)) Q) ∨ (WantG l ds o a false ∧ vp Vs i undef w))
  (hend : ∀ (vs : Nat → Value) (w : World), Bel w0 w → (∀ i, i < n1 → AL.contains i = false → vp Vs i (vs (ds.getD i 0)) w) →
   (∀ i, AL.contains i = true → ∃ g, vs (ds.getD i 0) = .pointer (some ⟨g, 0, none⟩) ∧ w0.heap.size ≤ g ∧ Blk w g T z) → (∀ i j, AL.contains i = true → AL.contains j = true → i ≠ j → vs (ds.getD i 0) ≠ vs (ds.getD j 0)) → wpList Tryz.prog l.toArray Q (l.drop n1) (putAll a0 ds vs) w) :
  (Code.region id l.toArray false).wp Tryz.prog Q a0 w0 := by
 unfold VarG at hD; simp only [Bool.and_eq_true, decide_eq_true_eq, List.all_eq_true, List.mem_range] at hD; obtain ⟨⟨⟨⟨⟨⟨hdl, hnl⟩, hdt⟩, hnd⟩, hEE⟩, hAA⟩, hops⟩ := hD
 have hop1 : ∀ i, i < n1 → ∃ o, l[i]? = some o ∧ o.dst = some (ds.getD i 0) ∧ (AL.contains i = true → o.guard = none) ∧ (AL.contains i = true → o.op = .alloc T) := by
  intro i hi; have h := hops i hi
  cases ho : l[i]? with
  | none => rw [ho] at h; cases h
  | some o =>
   rw [ho] at h; simp only [Bool.and_eq_true, decide_eq_true_eq, Bool.or_eq_true, Bool.not_eq_true', Option.isNone_iff_eq_none] at h; refine ⟨o, rfl, h.1.1, fun hA => h.1.2.elim (fun h3 => by rw [hA] at h3; cases h3) (fun h3 => h3), fun hA => ?_⟩; rcases h.2 with h2 | h2
   ·rw [hA] at h2; cases h2
   revert h2
   cases o.op <;> simp
 have hdi : ∀ i, i < n1 → ds.getD i 0 < a0.tmps.size := by
  intro i hi
  have : ds.getD i 0 ∈ ds := by
   rw [List.getD_eq_getElem?_getD, List.getElem?_eq_getElem (by omega)]; exact List.getElem_mem _
  exact hdt _ this
 let V : Nat → Value → World → Prop := vp Vs
 have hV : ∀ i v w w', V i v w → Below w.heap.size w w' → V i v w' := fun i v w w' h hb => (Vs.getD i SP.any).st v w w' h hb
 let F : Nat → Value → World → Prop := fun i v w => if AL.contains i then ∃ g, v = .pointer (some ⟨g, 0, none⟩) ∧ w0.heap.size ≤ g ∧ Blk w g T z else V i v w
 have hFs : ∀ i v w w', F i v w → Below w.heap.size w w' → F i v w' := by
  intro i v w w' h hb; show if _ then _ else _
  have h' : if _ then _ else _ := h
  split at h'
  ·next hA =>
   rw [if_pos hA]; obtain ⟨g, h1, h2, h3⟩ := h'; exact ⟨g, h1, h2, h3.to hb⟩
  next hA => rw [if_neg hA]; exact hV _ _ _ _ h' hb
 let I : Nat → Act → World → Prop := fun k a w => Bel w0 w ∧ a.defers = a0.defers ∧ a.tmps.size = a0.tmps.size ∧ (∀ t, t ∉ ds → a0.tmps[t]? = a.tmps[t]?) ∧
  (∀ i, i < n1 → i < k → F i (a.eval (.tmp (ds.getD i 0))) w) ∧
  (∀ i j, AL.contains i = true → AL.contains j = true → i ≠ j → i < k → j < k → a.eval (.tmp (ds.getD i 0)) ≠ a.eval (.tmp (ds.getD j 0)))
 have hAlt : ∀ i, AL.contains i = true → i < n1 := fun i h => hAA i (by simpa using h)
 have key : ∀ a w i v w', I i a w → i < n1 → Bel w w' → F i v w' → (AL.contains i = true → ∀ j, AL.contains j = true → i ≠ j → j < i → v ≠ a.eval (.tmp (ds.getD j 0))) → I (i + 1) (a.put (some (ds.getD i 0)) v) w' := by
  intro a w i v w' ⟨hb, hdf, hts, hot, hf, hne⟩ hi hb' hv hd; refine ⟨hb.trans hb', hdf, by simp [Act.put, hts], fun t ht => ?_, fun j hj hL => ?_, fun j k hj hk hjk hLj hLk => ?_⟩
  ·have : ds.getD i 0 ≠ t := fun e => ht (by rw [← e, List.getD_eq_getElem?_getD, List.getElem?_eq_getElem (by omega)]; exact List.getElem_mem _)
   show _ = (a.tmps.setIfInBounds _ _)[t]?; rw [Array.getElem?_setIfInBounds_ne this]; exact hot t ht
  ·by_cases hij : j = i
   ·subst hij; rw [eval_put_same (by rw [hts]; exact hdi _ hi)]; exact hv
   rw [eval_put_other (nodup_ne hnd (by omega) (by omega) (Ne.symm hij))]; exact hFs _ _ _ _ (hf j hj (by omega)) hb'.b
  have hjn := hAlt j hj; have hkn := hAlt k hk; by_cases hji : j = i
  ·subst hji; rw [eval_put_same (by rw [hts]; exact hdi _ hi), eval_put_other (nodup_ne hnd (by omega) (by omega) hjk)]; exact hd hj k hk hjk (by omega)
  by_cases hki : k = i
  ·subst hki; rw [eval_put_same (by rw [hts]; exact hdi _ hi), eval_put_other (nodup_ne hnd (by omega) (by omega) (Ne.symm hji))]; exact Ne.symm (hd hk j hj (Ne.symm hjk) (by omega))
  rw [eval_put_other (nodup_ne hnd (by omega) (by omega) (Ne.symm hji)), eval_put_other (nodup_ne hnd (by omega) (by omega) (Ne.symm hki))]; exact hne j k hj hk hjk (by omega) (by omega)
 have main : ∀ m k, m + k = n1 → ∀ a w, I k a w → wpList Tryz.prog l.toArray Q (l.drop k) a w := by
  intro m
  induction m with
  | zero =>
   intro k hk a w ⟨hb, hdf, hts, hot, hf, hne⟩; have hk1 : k = n1 := by omega
   subst hk1; have he := putAll_eq (a := a) ds a0 hdf.symm hts.symm (fun d hd => by rw [hts]; exact hdt d hd) hot; rw [← he]; refine hend (fun t => a.eval (.tmp t)) w hb (fun i hi hA => ?_) (fun i hA => ?_) (fun i j hi hj hij => hne i j hi hj hij (hAlt i hi) (hAlt j hj))
   ·have h3 : if AL.contains i then _ else _ := hf i hi hi
    rw [if_neg (by rw [hA]; simp)] at h3; exact h3
   have h3 : if AL.contains i then _ else _ := hf i (hAlt i hA) (hAlt i hA)
   rw [if_pos hA] at h3; exact h3
  | succ m ih =>
   intro i hk a w hI; have hi : i < n1 := by omega
   obtain ⟨o, ho, hdst, hg, hal⟩ := hop1 i hi
   have hcons : l.drop i = o :: l.drop (i + 1) := by
    have hlt : i < l.length := by omega
    rw [List.getElem?_eq_getElem hlt] at ho; rw [← Option.some.inj ho]; exact (List.getElem_cons_drop (h := hlt)).symm
   have next : ∀ a w, I (i + 1) a w → wpList Tryz.prog l.toArray Q (l.drop (i + 1)) a w := ih (i + 1) (by omega); rw [hcons]; unfold wpList; by_cases hA : AL.contains i = true
   ·rw [if_pos (by simp [Region.wanted, hg hA])]; refine .inl ?_; unfold Oper.wp execOp; simp only [hal hA, Sem.run_bind, hz, Result.andThen_ok, Sem.run_pure, Oper.upon, hdst]; refine next _ _ (key a w i _ _ hI hi ((Bel.refl _).alloc _) ?_ ?_)
    ·show if _ then _ else _
     rw [if_pos hA]; exact ⟨_, rfl, hI.1.b.size, heap_alloc_new _ _⟩
    intro _ j hj hij hL; have h3 : if AL.contains j then _ else _ := hI.2.2.2.2.1 j (hAlt j hj) hL
    rw [if_pos hj] at h3; obtain ⟨g, hg1, _, hg2⟩ := h3; rw [hg1]; intro he; have := hg2.lt; injection he with he
    injection he with he
    injection he with he
    omega
   have hA' : AL.contains i = false := by simpa using hA
   have hI2 := hI; obtain ⟨hb, hdf, hts, hot, hf, hne⟩ := hI2
   have h3 := hop i hi hA' a w hb (fun t ht => by
    have := hot t (by simpa using ht); show a.tmps.getD t undef = a0.tmps.getD t undef
    simp only [Array.getD_eq_getD_getElem?, this]) (fun j hj => by
    simp only [Bool.and_eq_true, decide_eq_true_eq, Bool.not_eq_true'] at hj; have h1 : if AL.contains j then _ else _ := hf j (by omega) hj.1
    rw [if_neg (by rw [hj.2]; simp)] at h1
    exact h1)
   rw [ho] at h3; simp only at h3; rcases h3 with ⟨hw, h3⟩ | ⟨hw, hv⟩
   ·rw [if_pos hw.wanted]; refine .inl ?_; by_cases hE : E.contains i = true
    ·rw [if_pos hE] at h3; obtain ⟨v, hy, hv⟩ := h3; unfold Oper.wp; rw [hy]; show wpList _ _ _ _ (a.put o.dst v) w; rw [hdst]; exact next _ _ (key a w i v w hI hi (Bel.refl _) (by show if _ then _ else _; rw [if_neg hA]; exact hv) (fun h => absurd h hA))
    rw [if_neg hE] at h3; refine Oper.wp_mono (fun a' w' h => ?_) h3; obtain ⟨v, rfl, hb', hv⟩ := h; exact next _ _ (key a w i v w' hI hi hb' (by show if _ then _ else _; rw [if_neg hA]; exact hv) (fun h => absurd h hA))
   rw [if_neg (by rw [hw.wanted]; simp), hdst]; exact next _ _ (key a w i undef w hI hi (Bel.refl _) (by show if _ then _ else _; rw [if_neg hA]; exact hv) (fun h => absurd h hA))
 refine wp_region_lit ?_; have h0 := main n1 0 (by omega) a0 w0 ⟨Bel.refl _, rfl, rfl, fun _ _ => rfl, fun i _ h => absurd h (by omega), fun i j _ _ _ h _ => absurd h (by omega)⟩; rwa [List.drop_zero] at h0
end
section
variable {P : Program} {Q : Exit → Act → World → Prop} {o : Oper} {a : Act} {w : World} {d : Nat} {R : Value → World → Prop} {f : Nat} {x x1 x2 x3 x4 : Operand} {ts : Array TypeId} {g off : Nat} {n1 n2 n3 n4 : Int}
theorem op_callG {f : Nat} {xs : Array Operand} {ts : Array TypeId} {vs : Array Value} (ho : o.op = .call { callee := .value (.func f), args := xs, argTypes := ts }) (hd : o.dst = some d)
  (hcf : ∀ args w, (callFunc f args).run P w = .ok (.enter f args) w) (hx : xs.map a.eval = vs) (hc : Calls P f vs w (GotG w R)) : o.wp P a w (PostG a w d R) Q := by
 obtain ⟨dst, op, type, pos, after, guard⟩ := o; simp only at ho hd; subst ho hd hx; unfold Oper.wp; rw [execOp_call_go, hcf]; simp only [Oper.upon, Array.empty_append, Array.append_empty]; refine hc.mono ?_; rintro e w' ⟨v, rfl, hb, hr⟩; exact ⟨v, rfl, hb, hr⟩
theorem op_callG1 (ho : o.op = .call { callee := .value (.func f), args := #[x1], argTypes := ts }) (hd : o.dst = some d)
  (hcf : ∀ args w, (callFunc f args).run P w = .ok (.enter f args) w) (hc : Calls P f #[a.eval x1] w (GotG w R)) : o.wp P a w (PostG a w d R) Q := op_callG ho hd hcf (by simp) hc
theorem op_callG2 (ho : o.op = .call { callee := .value (.func f), args := #[x1, x2], argTypes := ts }) (hd : o.dst = some d)
  (hcf : ∀ args w, (callFunc f args).run P w = .ok (.enter f args) w) (hc : Calls P f #[a.eval x1, a.eval x2] w (GotG w R)) : o.wp P a w (PostG a w d R) Q := op_callG ho hd hcf (by simp) hc
theorem op_loadG {T : TypeId} {p v : Value} (ho : o.op = .load T x) (hd : o.dst = some d) (hx : a.eval x = p) (hl : (Instr.loadAt T p).run P w = .ok v w) (h : R v w) : o.wp P a w (PostG a w d R) Q := by
 have hr : (execOp a.eval o).run P w = .ok (.value v) w := by
  unfold execOp; simp only [ho, hx, Sem.run_bind, hl, Result.andThen_ok, Sem.run_pure]
 unfold Oper.wp; rw [hr]; show PostG a w d R (a.put o.dst v) w; rw [hd]; exact ⟨v, rfl, Bel.refl _, h⟩
theorem op_ldGI {v : Value} (ho : o.op = .load 3 x) (hd : o.dst = some d) (hx : a.eval x = .pointer (some ⟨g, off, none⟩)) (h : w.cell? ⟨g, off, none⟩ = some v) : o.wp Tryz.prog a w (PostG a w d (isV v).p) Q := op_loadG ho hd hx (ld_I h) rfl
theorem op_ldGB {v : Value} (ho : o.op = .load 4 x) (hd : o.dst = some d) (hx : a.eval x = .pointer (some ⟨g, off, none⟩)) (h : w.cell? ⟨g, off, none⟩ = some v) : o.wp Tryz.prog a w (PostG a w d (isV v).p) Q := op_loadG ho hd hx (ld_B h) rfl
theorem op_ldGS {v : Value} (ho : o.op = .load 41 x) (hd : o.dst = some d) (hx : a.eval x = .pointer (some ⟨g, off, none⟩)) (h : w.cell? ⟨g, off, none⟩ = some v) : o.wp Tryz.prog a w (PostG a w d (isV v).p) Q := op_loadG ho hd hx (ld_S h) rfl
theorem op_litG4 (ho : o.op = .buildSlice 41 4 #[(0, x1), (1, x2), (2, x3), (3, x4)]) (hd : o.dst = some d) (h1 : a.eval x1 = .int .i64 n1) (h2 : a.eval x2 = .int .i64 n2) (h3 : a.eval x3 = .int .i64 n3) (h4 : a.eval x4 = .int .i64 n4) (lo : Nat) (hl : lo ≤ w.heap.size) :
  o.wp Tryz.prog a w (PostG a w d (isF lo [n1, n2, n3, n4]).p) Q := by
 have key : (execOp a.eval o).run Tryz.prog w = .ok (.value (.slice (some ⟨w.heap.size, 0, none⟩) 4 4)) (w.alloc (.cells (ints [n1, n2, n3, n4]).toArray 3)) := by
  generalize a.eval = ev at h1 h2 h3 h4 ⊢; unfold execOp; simp only [ho]; simp [go_sem, ints, h1, h2, h3, h4]
 unfold Oper.wp; rw [key]; simp only [Oper.upon, hd]; exact ⟨_, rfl, (Bel.refl _).alloc _, w.heap.size, 4, [], rfl, hl, by simp, by omega, by rw [List.append_nil]; exact heap_alloc_new w _⟩
theorem op_litG3 (ho : o.op = .buildSlice 41 3 #[(0, x1), (1, x2), (2, x3)]) (hd : o.dst = some d) (h1 : a.eval x1 = .int .i64 n1) (h2 : a.eval x2 = .int .i64 n2) (h3 : a.eval x3 = .int .i64 n3) (lo : Nat) (hl : lo ≤ w.heap.size) :
  o.wp Tryz.prog a w (PostG a w d (isF lo [n1, n2, n3]).p) Q := by
 have key : (execOp a.eval o).run Tryz.prog w = .ok (.value (.slice (some ⟨w.heap.size, 0, none⟩) 3 3)) (w.alloc (.cells (ints [n1, n2, n3]).toArray 3)) := by
  generalize a.eval = ev at h1 h2 h3 ⊢; unfold execOp; simp only [ho]; simp [go_sem, ints, h1, h2, h3]
 unfold Oper.wp; rw [key]; simp only [Oper.upon, hd]; exact ⟨_, rfl, (Bel.refl _).alloc _, w.heap.size, 3, [], rfl, hl, by simp, by omega, by rw [List.append_nil]; exact heap_alloc_new w _⟩
end
section
variable {w W : World} {t1 t2 : TypeId} {v1 v2 : List Value}
theorem env_twoG (e : W = (w.alloc (.cells v1.toArray t1)).alloc (.cells v2.toArray t2)) : Env W [⟨w.heap.size, t1, v1⟩, ⟨w.heap.size + 1, t2, v2⟩] ∧ Bel w W :=
 ⟨(env_two e).1, by rw [e]; exact ((Bel.refl _).alloc _).alloc _⟩
end
end Go.Proofs.YtddbmckbankmeaaGreat
