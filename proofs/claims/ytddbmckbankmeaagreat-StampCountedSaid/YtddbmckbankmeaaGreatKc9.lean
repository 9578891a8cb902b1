/- Part 9 of the texts behind this claim. -/
import Derived.Test.YtddbmckbankmeaaGreatKc8
set_option linter.unusedVariables false
set_option linter.unusedSimpArgs false
namespace Go.Proofs.YtddbmckbankmeaaGreat
open Go.RowKit
def nthM (ms : List Mv) (i : Nat) : Mv := ms.getD i ⟨0, 0, 0, false⟩
theorem nthM_at {ms : List Mv} {i : Nat} {m : Mv} (h : ms[i]? = some m) : nthM ms i = m := by
 unfold nthM; rw [List.getD_eq_getElem?_getD, h]; rfl
theorem at_nthM {ms : List Mv} {i : Nat} (h : i < ms.length) : ms[i]? = some (nthM ms i) := by
 unfold nthM; rw [List.getD_eq_getElem?_getD, List.getElem?_eq_getElem h]; rfl
def stepB (W H : Int) (ms : List Mv) (i : Nat) : Bool := alB W H (nthM ms i).x (nthM ms i).y (nthM ms i).t && (decide (i = 0) || decide (ordM (nthM ms (i - 1)) (nthM ms i) < 0))
def closB (W H : Int) (ms : List Mv) (i : Nat) : Bool := (List.range ms.length).all fun j => memB (aftM W H (nthM ms i) (nthM ms j)) ms
def gB (W H : Int) (ms : List Mv) : Bool := (List.range ms.length).all (stepB W H ms) && (memB ⟨0, 0, 0, false⟩ ms && (List.range ms.length).all (closB W H ms))
theorem gB_step {W H : Int} {ms : List Mv} {i : Nat} (hi : i < ms.length) (h : stepB W H ms i = false) : gB W H ms = false := by
 unfold gB
 have : (List.range ms.length).all (stepB W H ms) = false := by
  rw [Bool.eq_false_iff]; intro hall; rw [List.all_eq_true] at hall; rw [hall i (List.mem_range.2 hi)] at h; cases h
 rw [this]; rfl
theorem gB_zero {W H : Int} {ms : List Mv} (h : memB ⟨0, 0, 0, false⟩ ms = false) : gB W H ms = false := by
 unfold gB; rw [h]; simp
theorem gB_clos {W H : Int} {ms : List Mv} {i j : Nat} (hi : i < ms.length) (hj : j < ms.length) (h : memB (aftM W H (nthM ms i) (nthM ms j)) ms = false) : gB W H ms = false := by
 unfold gB
 have : (List.range ms.length).all (closB W H ms) = false := by
  rw [Bool.eq_false_iff]; intro hall; rw [List.all_eq_true] at hall; have h1 := hall i (List.mem_range.2 hi); unfold closB at h1; rw [List.all_eq_true] at h1; rw [h1 j (List.mem_range.2 hj)] at h; cases h
 rw [this]; simp
theorem gB_yes {W H : Int} {ms : List Mv} (h1 : ∀ i, i < ms.length → stepB W H ms i = true) (h2 : memB ⟨0, 0, 0, false⟩ ms = true) (h3 : ∀ i j, i < ms.length → j < ms.length → memB (aftM W H (nthM ms i) (nthM ms j)) ms = true) : gB W H ms = true := by
 unfold gB closB; simp only [Bool.and_eq_true, List.all_eq_true, List.mem_range]; exact ⟨h1, h2, fun i hi j hj => h3 i j hi hj⟩
theorem Al.okm {W H : Int} {m : Mv} (h : Al W H m) : Okm W H m.x m.y m.t := ⟨h.w, h.h, h.x, h.y, h.t⟩
def isMp (lo : Nat) (ms : List Mv) : SP := ⟨fun v w => ∃ b, v = .map (some b) ∧ lo ≤ b ∧ MapM w b ms, fun v w w' ⟨b, h1, h2, h3⟩ hb => ⟨b, h1, h2, h3.to hb⟩⟩
section
variable {Q : Exit → Act → World → Prop} {o : Oper} {a : Act} {w w' : World} {d b : Nat} {x y z : Operand} {m : Mv} {ms : List Mv} {ops : Array Oper} {rest : List Oper} {L : List Ent}
theorem op_mkM (ho : o.op = .makeMap 92 none) (hd : o.dst = some d) (lo : Nat) (hl : lo ≤ w.heap.size) : o.wp Tryz.prog a w (Post a w d (isMp lo []).p) Q := by
 have key : (execOp a.eval o).run Tryz.prog w = .ok (.value (.map (some w.heap.size))) (w.alloc (.map #[] 0)) := by
  unfold execOp; simp only [ho]; simp [run_makeMap, Result.andThen]
 unfold Oper.wp; rw [key]; show Post a w d _ (a.put o.dst _) _; rw [hd]; exact ⟨_, rfl, below_alloc (Below.refl _ _) _, w.heap.size, rfl, hl, mapM_made w⟩
theorem wpList_mapM (hg : o.guard = none) (ho : o.op = .mapUpdate 92 x y z) (hd : o.dst = none) (hx : a.eval x = .map (some b)) (hy : a.eval y = .agg #[.int .i64 m.x, .int .i64 m.y, .int .i64 m.t, .bool m.f]) (hz : a.eval z = .bool true)
  (h : MapM w b ms) (hw : WfM m) (hn : ms.length < maxLen) (hK : ∀ w', MapM w' b (ms ++ [m]) → w.grownBy w' (some b) → wpList Tryz.prog ops Q rest a w') : wpList Tryz.prog ops Q (o :: rest) a w := by
 refine wpList_plain hg fun K' hK' => ?_
 obtain ⟨w', r1, r2, r3⟩ := h.store hw hn; unfold mvv at r1; unfold Oper.wp; simp [execOp, ho, hx, hy, hz, r1, Result.andThen]; show K' (a.put o.dst undef) w'; rw [hd]; exact hK' _ _ (hK w' r2 r3)
theorem Env.grown : ∀ {L : List Ent}, Env w L → w.grownBy w' (some b) → (∀ e ∈ L, e.g ≠ b) → Env w' L
 | [], _, _, _ => trivial
 | e :: L, ⟨h1, h2, h3⟩, hg, hne => ⟨(hg.block e.g h1.lt (fun e2 => hne e (List.mem_cons_self ..) (Option.some.inj e2))).trans h1, h2, Env.grown h3 hg (fun e' he => hne e' (List.mem_cons_of_mem _ he))⟩
end
set_option maxRecDepth 100000 in
set_option maxHeartbeats 1000000 in
theorem group_got (Wd Ht : Int) (A : Option Addr) (k : Nat) (ms : List Mv) (w : World) (hrm : RdM w A ms) (hln : ms.length ≤ 100000) (hs : sizeB Wd Ht = true) :
  Calls Tryz.prog 23 #[.agg #[.int .i64 Wd, .int .i64 Ht], .slice A ms.length k] w (Got w (isV (.bool (gB Wd Ht ms))).p) := by
 have HRM := Hd.mk hrm; have HS := Hd.mk hs; clear hrm hs; go_enter Tryz.func23, Tryz.ntmps23
 go_upto_region 1 with fail
 obtain ⟨W0, hW0⟩ : ∃ W : World, W = w.alloc (.cells #[.int .i64 Wd, .int .i64 Ht] 63) := ⟨_, rfl⟩; rw [← hW0]; obtain ⟨he, hb⟩ := env_one hW0; have HE := Hd.mk he; have HB := Hd.mk hb; clear he hb hW0; refine wp_region_vd 1 [12] [] [] 63 [.int .i64 0, .int .i64 0] [isMp ((w.heap.size + 1)) ([])] (by rfl) alloc_Z ?_ ?_
 ·intro qi qh qA aa wx hb hs hd
  match qi, qh, qA with
  | 0, _, _ => exact aL (op_mkM rfl rfl _ (Nat.le_trans (by have h := HE.out.lt _ (List.mem_of_getElem? (i := 0) rfl); exact h) hb.size)) | qi + 1, h, _ => omega
 intro vs X1 hb hv hal hne; replace HB := Hd.mk (bel_then HB.out hb); replace HE := Hd.mk (HE.out.to hb); obtain ⟨bm, e12, lbm, hmm⟩ : ∃ b, vs 12 = .map (some b) ∧ (w.heap.size + 1) ≤ b ∧ MapM X1 b ([]) := hv 0 (by decide) rfl; have HM := Hd.mk hmm; have HBM := Hd.mk lbm; clear hmm lbm; simp only [PA, e12]; clear hv hal hne hb e12; go_upto_region 2 with fail
 refine wp_region_vd 3 [13, 14, 15] [0, 2] [] 63 [.int .i64 0, .int .i64 0] [isV (.slice A ms.length k), qI ((ms.length : Nat) : Int), qI 0] (by rfl) alloc_Z ?_ ?_
 ·intro qi qh qA aa wx hb hs hd
  match qi, qh, qA with
  | 0, _, _ => exact aL (op_mv rfl (hs 1 rfl)) | 1, _, _ => exact aL (op_lenvVM rfl rfl (hd 0 rfl)) | 2, _, _ => exact aL (op_mv rfl rfl) | qi + 3, h, _ => omega
 intro vs X2 hb hv hal hne; replace HB := Hd.mk (bel_then HB.out hb); replace HE := Hd.mk (HE.out.to hb); have HML := Hd.mk HM.out.lt; replace HM := Hd.mk (HM.out.to hb); have e13 : vs 13 = .slice A ms.length k := hv 0 (by decide) rfl; have e14 : vs 14 = .int .i64 (((ms.length : Nat) : Int)) := hv 1 (by decide) rfl; have e15 : vs 15 = .int .i64 0 := hv 2 (by decide) rfl; simp only [PA, e13, e14, e15]; clear hv hal hne hb e13 e14 e15 HML; go_wp2_with fail
 go_loopw [15] (fun s15 wr => ∃ j : Nat, j ≤ ms.length ∧ s15 = .int .i64 j ∧ (Env wr [⟨w.heap.size, 63, [.int .i64 Wd, .int .i64 Ht]⟩] ∧ MapM wr bm (ms.take j) ∧ Below w.heap.size w wr) ∧ ∀ i, i < j → stepB Wd Ht ms i = true) (fun s15 _ => ms.length - (intOf s15).toNat)
 case atStart => exact ⟨0, Nat.zero_le _, rfl, ⟨HE.out, HM.out, HB.out⟩, fun i hi => by omega⟩
 case round =>
  obtain ⟨j, hjl, rfl, ⟨he, hmm, hb⟩, hst⟩ := hrel; have HST := Hd.mk hst; clear HB HE HM hst; have HB := Hd.mk hb; have HM := Hd.mk hmm; have HE : Hd (Env wr [⟨w.heap.size, 63, [.int .i64 Wd, .int .i64 Ht]⟩]) := ⟨he⟩; clear he hmm hb; by_cases hj : j < ms.length
  ·obtain ⟨ad, rfl⟩ := HRM.out.some_ (at_nthM hj); go_upto_region 4 with fail
   refine wp_region_vd 4 [17, 18, 19, 7] [0] [3] 65 [.int .i64 0, .int .i64 0, .int .i64 0, .bool false] [qI ((j : Nat) : Int), isV (.pointer (some (ad.add (j * 4)))), isV (.agg #[.int .i64 ((nthM ms j).x), .int .i64 ((nthM ms j).y), .int .i64 ((nthM ms j).t), .bool ((nthM ms j).f)]), SP.any] (by rfl) alloc_M ?_ ?_
   ·intro qi qh qA aa wx hb hs hd
    match qi, qh, qA with
    | 0, _, _ => exact aL (op_mv rfl (hs 15 rfl)) | 1, _, _ => exact aL (op_run rfl (op_idxVM hj rfl (hs 13 rfl) (hs 15 rfl) _) rfl) | 2, _, _ => exact aL (op_ldvVM rfl rfl (hd 1 rfl) ((HRM.out.to (bel_then HB.out hb)).at_ (at_nthM hj))) | 3, _, h => cases h | qi + 4, h, _ => omega
   intro vs X1 hb hv hal hne; have HL0 := Hd.mk (HE.out.lt); have HBW := HB; replace HB := Hd.mk (bel_then HB.out hb); replace HE := Hd.mk (HE.out.to hb); have HML := Hd.mk HM.out.lt; replace HM := Hd.mk (HM.out.to hb); have e17 : vs 17 = .int .i64 (((j : Nat) : Int)) := hv 0 (by decide) rfl; have e19 : vs 19 = .agg #[.int .i64 ((nthM ms j).x), .int .i64 ((nthM ms j).y), .int .i64 ((nthM ms j).t), .bool ((nthM ms j).f)] := hv 2 (by decide) rfl; obtain ⟨g7, e7, l7, b7⟩ : ∃ g, vs 7 = .pointer (some ⟨g, 0, none⟩) ∧ _ := hal 3 rfl; replace HE : Hd (Env X1 [⟨w.heap.size, 63, [.int .i64 Wd, .int .i64 Ht]⟩, ⟨g7, 65, [.int .i64 0, .int .i64 0, .int .i64 0, .bool false]⟩]) := ⟨Env.addne (e := ⟨g7, 65, [.int .i64 0, .int .i64 0, .int .i64 0, .bool false]⟩) HE.out b7 (fun e' he => Nat.ne_of_lt (Nat.lt_of_lt_of_le (HL0.out e' he) l7))⟩; have HMG7 : Hd (bm < g7) := ⟨Nat.lt_of_lt_of_le HML.out l7⟩; have G7 : Hd (w.heap.size ≤ g7) := ⟨Nat.le_trans HBW.out.size l7⟩; simp only [PA, e17, e19, e7]; clear hv hal hne hb HL0 HBW e17 e19 e7 l7 b7 HML; refine wpList_run rfl (op_asgE (v := .int .i64 (((j : Nat) : Int))) rfl rfl _) ?_; simp only [Act.put, List.setIfInBounds_toArray, List.set_cons_succ, List.set_cons_zero]; refine wpList_st rfl rfl rfl rfl rfl (sto_M (HE.out.get 1 rfl)) ?_; have HE' : Env (putL X1 g7 0 [.int .i64 ((nthM ms j).x), .int .i64 ((nthM ms j).y), .int .i64 ((nthM ms j).t), .bool ((nthM ms j).f)]) [⟨w.heap.size, 63, [.int .i64 Wd, .int .i64 Ht]⟩, ⟨g7, 65, [.int .i64 ((nthM ms j).x), .int .i64 ((nthM ms j).y), .int .i64 ((nthM ms j).t), .bool ((nthM ms j).f)]⟩] := HE.out.putF 1 rfl rfl; have HB' := putL_below (show w.heap.size ≤ g7 from G7.out) [.int .i64 ((nthM ms j).x), .int .i64 ((nthM ms j).y), .int .i64 ((nthM ms j).t), .bool ((nthM ms j).f)] _ 0 HB.out; replace HM := Hd.mk (HM.out.put (vs := [.int .i64 ((nthM ms j).x), .int .i64 ((nthM ms j).y), .int .i64 ((nthM ms j).t), .bool ((nthM ms j).f)]) (o := 0) HMG7.out); generalize putL X1 g7 0 [.int .i64 ((nthM ms j).x), .int .i64 ((nthM ms j).y), .int .i64 ((nthM ms j).t), .bool ((nthM ms j).f)] = X2 at *; replace HE := Hd.mk HE'; replace HB := Hd.mk HB'; clear HE' HB'; cases hal : alB Wd Ht (nthM ms j).x (nthM ms j).y (nthM ms j).t
   ·have HF := Hd.mk (gB_step hj (show stepB Wd Ht ms j = false from by unfold stepB; rw [hal]; rfl)); have HAL := Hd.mk hal; clear hal; go_upto_region 5 with fail
    refine wp_region_vg 18 [20, 21, 22, 23, 24, 25, 26, 27, 28, 29, 30, 31, 32, 33, 34, 35, 36, 37] [3, 4, 17] [] 63 [.int .i64 0, .int .i64 0] [isV (.agg #[.int .i64 Wd, .int .i64 Ht]), isV (.agg #[.int .i64 ((nthM ms j).x), .int .i64 ((nthM ms j).y), .int .i64 ((nthM ms j).t), .bool ((nthM ms j).f)]), qF, qT, qT, qU, qU, qU, qU, qU, qU, qU, qU, qU, qU, qU, qU, qT] (by kernel_rfl) (by kernel_rfl) (by kernel_rfl) (by rfl) alloc_Z (fun d v c a w h => by cases d <;> exact h) ?_ ?_
    ·intro qi qh qA aa wx hb hs hd
     match qi, qh, qA with
     | 0, _, _ => exact aL (op_ldZ rfl rfl (hs 2 rfl) ((HE.out.to hb).get 0 rfl)) | 1, _, _ => exact aL (op_ldM rfl rfl (hs 7 rfl) ((HE.out.to hb).get 1 rfl)) | 2, _, _ => exact aL (wp_b (bool_eq HAL.out) (op_call2 rfl rfl Tryz.call52 (by rw [(show aa.eval (.tmp 20) = .agg #[.int .i64 Wd, .int .i64 Ht] from (hd 0 rfl)), (show aa.eval (.tmp 21) = .agg #[.int .i64 ((nthM ms j).x), .int .i64 ((nthM ms j).y), .int .i64 ((nthM ms j).t), .bool ((nthM ms j).f)] from (hd 1 rfl))]; exact allows_got Wd Ht ((nthM ms j).x) ((nthM ms j).y) ((nthM ms j).t) ((nthM ms j).f) _))) | 3, _, _ => exact aL ⟨_, op_not rfl (hd 2 rfl), rfl⟩ | 4, _, _ => exact aL (op_mv rfl (hd 3 rfl)) | 5, _, _ => exact aS (hd 4 rfl) | 6, _, _ => exact aS (hd 4 rfl) | 7, _, _ => exact aS (hd 4 rfl) | 8, _, _ => exact .inr ⟨⟨rfl, .inr ⟨rfl, hd 7 rfl⟩⟩, rfl⟩ | 9, _, _ => exact .inr ⟨⟨rfl, .inr ⟨rfl, hd 7 rfl⟩⟩, rfl⟩ | 10, _, _ => exact .inr ⟨⟨rfl, .inr ⟨rfl, hd 7 rfl⟩⟩, rfl⟩ | 11, _, _ => exact .inr ⟨⟨rfl, .inr ⟨rfl, hd 7 rfl⟩⟩, rfl⟩ | 12, _, _ => exact .inr ⟨⟨rfl, .inr ⟨rfl, hd 7 rfl⟩⟩, rfl⟩ | 13, _, _ => exact .inr ⟨⟨rfl, .inr ⟨rfl, hd 7 rfl⟩⟩, rfl⟩ | 14, _, _ => exact .inr ⟨⟨rfl, .inr ⟨rfl, hd 7 rfl⟩⟩, rfl⟩ | 15, _, _ => exact .inr ⟨⟨rfl, .inr ⟨rfl, hd 7 rfl⟩⟩, rfl⟩ | 16, _, _ => exact aS (hd 4 rfl) | 17, _, _ => exact aL ⟨_, op_pickT rfl (hd 4 rfl) rfl, rfl⟩ | qi + 18, h, _ => omega
    intro vs X3 hb hv hal hne; replace HB := Hd.mk (bel_then HB.out hb); replace HE := Hd.mk (HE.out.to hb); have HML := Hd.mk HM.out.lt; replace HM := Hd.mk (HM.out.to hb); have e37 : vs 37 = .bool true := hv 17 (by decide) rfl; simp only [PA, e37]; clear hv hal hne hb e37 HML; go_upto_region 6 with fail
    refine wp_region_vd 0 [] [] [] 63 [.int .i64 0, .int .i64 0] [] (by rfl) alloc_Z ?_ ?_
    ·intro qi qh qA aa wx hb hs hd
     match qi, qh, qA with
     | qi + 0, h, _ => omega
    intro vs X4 hb hv hal hne; replace HB := Hd.mk (bel_then HB.out hb); replace HE := Hd.mk (HE.out.to hb); have HML := Hd.mk HM.out.lt; replace HM := Hd.mk (HM.out.to hb); simp only [PA]; clear hv hal hne hb HML; go_wp2_with fail
    go_ret
    exact ⟨_, rfl, HB.out, by rw [HF.out]; rfl⟩
   have HAL := Hd.mk hal; clear hal; by_cases hj0 : j = 0
   ·have HSJ := Hd.mk (show stepB Wd Ht ms j = true from by unfold stepB; rw [HAL.out, decide_eq_true hj0]; rfl); go_upto_region 5 with fail
    refine wp_region_vg 18 [20, 21, 22, 23, 24, 25, 26, 27, 28, 29, 30, 31, 32, 33, 34, 35, 36, 37] [3, 4, 5, 6, 7, 16, 17] [] 63 [.int .i64 0, .int .i64 0] [isV (.agg #[.int .i64 Wd, .int .i64 Ht]), isV (.agg #[.int .i64 ((nthM ms j).x), .int .i64 ((nthM ms j).y), .int .i64 ((nthM ms j).t), .bool ((nthM ms j).f)]), qT, qF, qF, qI ((j : Nat) : Int), qF, qF, qU, qU, qU, qU, qU, qU, qU, qU, qF, qF] (by kernel_rfl) (by kernel_rfl) (by kernel_rfl) (by rfl) alloc_Z (fun d v c a w h => by cases d <;> exact h) ?_ ?_
    ·intro qi qh qA aa wx hb hs hd
     match qi, qh, qA with
     | 0, _, _ => exact aL (op_ldZ rfl rfl (hs 2 rfl) ((HE.out.to hb).get 0 rfl)) | 1, _, _ => exact aL (op_ldM rfl rfl (hs 7 rfl) ((HE.out.to hb).get 1 rfl)) | 2, _, _ => exact aL (wp_b (bool_eq HAL.out) (op_call2 rfl rfl Tryz.call52 (by rw [(show aa.eval (.tmp 20) = .agg #[.int .i64 Wd, .int .i64 Ht] from (hd 0 rfl)), (show aa.eval (.tmp 21) = .agg #[.int .i64 ((nthM ms j).x), .int .i64 ((nthM ms j).y), .int .i64 ((nthM ms j).t), .bool ((nthM ms j).f)] from (hd 1 rfl))]; exact allows_got Wd Ht ((nthM ms j).x) ((nthM ms j).y) ((nthM ms j).t) ((nthM ms j).f) _))) | 3, _, _ => exact aL ⟨_, op_not rfl (hd 2 rfl), rfl⟩ | 4, _, _ => exact aL (op_mv rfl (hd 3 rfl)) | 5, _, _ => exact aG (hd 4 rfl) (op_mv rfl (hs 6 rfl)) | 6, _, _ => exact aG (hd 4 rfl) (pure_b (bool_eq (decide_eq_false (by omega))) (⟨_, op_gtrI rfl (hd 5 rfl) rfl, rfl⟩)) | 7, _, _ => exact aG (hd 4 rfl) (op_mv rfl (hd 6 rfl)) | 8, _, _ => exact aS (hd 7 rfl) | 9, _, _ => exact aS (hd 7 rfl) | 10, _, _ => exact aS (hd 7 rfl) | 11, _, _ => exact aS (hd 7 rfl) | 12, _, _ => exact aS (hd 7 rfl) | 13, _, _ => exact aS (hd 7 rfl) | 14, _, _ => exact aS (hd 7 rfl) | 15, _, _ => exact aS (hd 7 rfl) | 16, _, _ => exact aG (hd 4 rfl) ⟨_, op_pickF rfl (hd 7 rfl) rfl, rfl⟩ | 17, _, _ => exact aL ⟨_, op_pickF rfl (hd 4 rfl) (hd 16 rfl), rfl⟩ | qi + 18, h, _ => omega
    intro vs X3 hb hv hal hne; replace HB := Hd.mk (bel_then HB.out hb); replace HE := Hd.mk (HE.out.to hb); have HML := Hd.mk HM.out.lt; replace HM := Hd.mk (HM.out.to hb); have e37 : vs 37 = .bool false := hv 17 (by decide) rfl; simp only [PA, e37]; clear hv hal hne hb e37 HML; go_upto_region 7 with fail
    refine wp_region_vd 2 [38, 39] [0] [] 63 [.int .i64 0, .int .i64 0] [isV (.map (some bm)), isV (.agg #[.int .i64 ((nthM ms j).x), .int .i64 ((nthM ms j).y), .int .i64 ((nthM ms j).t), .bool ((nthM ms j).f)])] (by rfl) alloc_Z ?_ ?_
    ·intro qi qh qA aa wx hb hs hd
     match qi, qh, qA with
     | 0, _, _ => exact aL (op_mv rfl (hs 5 rfl)) | 1, _, _ => exact aL (op_ldM rfl rfl (hs 7 rfl) ((HE.out.to hb).get 1 rfl)) | qi + 2, h, _ => omega
    intro vs X4 hb hv hal hne; replace HB := Hd.mk (bel_then HB.out hb); replace HE := Hd.mk (HE.out.to hb); have HML := Hd.mk HM.out.lt; replace HM := Hd.mk (HM.out.to hb); have e38 : vs 38 = .map (some bm) := hv 0 (by decide) rfl; have e39 : vs 39 = .agg #[.int .i64 ((nthM ms j).x), .int .i64 ((nthM ms j).y), .int .i64 ((nthM ms j).t), .bool ((nthM ms j).f)] := hv 1 (by decide) rfl; simp only [PA, e38, e39]; clear hv hal hne hb e38 e39 HML; refine wpList_mapM (m := nthM ms j) rfl rfl rfl rfl rfl rfl HM.out (al_of (f := (nthM ms j).f) HS.out HAL.out).wf (by rw [List.length_take]; unfold maxLen; omega) ?_; intro wm hm1 hg1; have HE1 := Env.grown (Env.front (L := [⟨w.heap.size, 63, [.int .i64 Wd, .int .i64 Ht]⟩]) HE.out) hg1 (fun e he => by rw [List.mem_singleton.1 he]; exact Nat.ne_of_lt HBM.out); have HB1 := HB.out.grown hg1 HB.out.size (fun z hz => by cases hz; exact Nat.le_of_lt HBM.out); have HM1 : MapM wm bm (ms.take (j + 1)) := by rw [List.take_add_one, at_nthM hj]; exact hm1
    replace HE := Hd.mk HE1; replace HB := Hd.mk HB1; replace HM := Hd.mk HM1; clear HE1 HB1 HM1 hm1 hg1; go_wp2_with fail
    go_roundw
    case rel => exact ⟨j + 1, by omega, by go_num, ⟨HE.out, HM.out, HB.out⟩, fun i hi => by
     by_cases e : i = j
     ·rw [e]; exact HSJ.out
     exact HST.out i (by omega)⟩
    case measure => simp [intOf]; omega
   have hjm : j - 1 < ms.length := by omega
   by_cases hor : 0 ≤ ordM (nthM ms (j - 1)) (nthM ms j)
   ·have HF := Hd.mk (gB_step hj (show stepB Wd Ht ms j = false from by unfold stepB; rw [HAL.out, decide_eq_false hj0, decide_eq_false (by omega)]; rfl)); go_upto_region 5 with fail
    refine wp_region_vg 18 [20, 21, 22, 23, 24, 25, 26, 27, 28, 29, 30, 31, 32, 33, 34, 35, 36, 37] [3, 4, 5, 6, 7, 8, 9, 10, 15, 16, 17] [] 63 [.int .i64 0, .int .i64 0] [isV (.agg #[.int .i64 Wd, .int .i64 Ht]), isV (.agg #[.int .i64 ((nthM ms j).x), .int .i64 ((nthM ms j).y), .int .i64 ((nthM ms j).t), .bool ((nthM ms j).f)]), qT, qF, qF, qI ((j : Nat) : Int), qT, qT, isV (.slice (some ad) ms.length k), qI ((j : Nat) : Int), qI ((j - 1 : Nat) : Int), isV (.pointer (some (ad.add ((j - 1) * 4)))), isV (.agg #[.int .i64 ((nthM ms (j - 1)).x), .int .i64 ((nthM ms (j - 1)).y), .int .i64 ((nthM ms (j - 1)).t), .bool ((nthM ms (j - 1)).f)]), isV (.agg #[.int .i64 ((nthM ms j).x), .int .i64 ((nthM ms j).y), .int .i64 ((nthM ms j).t), .bool ((nthM ms j).f)]), qI (ordM (nthM ms (j - 1)) (nthM ms j)), qT, qT, qT] (by kernel_rfl) (by kernel_rfl) (by kernel_rfl) (by rfl) alloc_Z (fun d v c a w h => by cases d <;> exact h) ?_ ?_
    ·intro qi qh qA aa wx hb hs hd
     match qi, qh, qA with
     | 0, _, _ => exact aL (op_ldZ rfl rfl (hs 2 rfl) ((HE.out.to hb).get 0 rfl)) | 1, _, _ => exact aL (op_ldM rfl rfl (hs 7 rfl) ((HE.out.to hb).get 1 rfl)) | 2, _, _ => exact aL (wp_b (bool_eq HAL.out) (op_call2 rfl rfl Tryz.call52 (by rw [(show aa.eval (.tmp 20) = .agg #[.int .i64 Wd, .int .i64 Ht] from (hd 0 rfl)), (show aa.eval (.tmp 21) = .agg #[.int .i64 ((nthM ms j).x), .int .i64 ((nthM ms j).y), .int .i64 ((nthM ms j).t), .bool ((nthM ms j).f)] from (hd 1 rfl))]; exact allows_got Wd Ht ((nthM ms j).x) ((nthM ms j).y) ((nthM ms j).t) ((nthM ms j).f) _))) | 3, _, _ => exact aL ⟨_, op_not rfl (hd 2 rfl), rfl⟩ | 4, _, _ => exact aL (op_mv rfl (hd 3 rfl)) | 5, _, _ => exact aG (hd 4 rfl) (op_mv rfl (hs 6 rfl)) | 6, _, _ => exact aG (hd 4 rfl) (pure_b (bool_eq (decide_eq_true (by omega))) (⟨_, op_gtrI rfl (hd 5 rfl) rfl, rfl⟩)) | 7, _, _ => exact aG (hd 4 rfl) (op_mv rfl (hd 6 rfl)) | 8, _, _ => exact aG (hd 7 rfl) (op_mv rfl (hs 1 rfl)) | 9, _, _ => exact aG (hd 7 rfl) (op_mv rfl (hs 6 rfl)) | 10, _, _ => exact aG (hd 7 rfl) (pure_b (int_eq (by omega)) (⟨_, op_sub (by unfold Fit; omega) rfl (hd 9 rfl) rfl, rfl⟩)) | 11, _, _ => exact aG (hd 7 rfl) (op_run rfl (op_idxVM hjm rfl (hd 8 rfl) (hd 10 rfl) _) rfl) | 12, _, _ => exact aG (hd 7 rfl) (op_ldvVM rfl rfl (hd 11 rfl) ((HRM.out.to (bel_then HB.out hb)).at_ (at_nthM hjm))) | 13, _, _ => exact aG (hd 7 rfl) (op_ldM rfl rfl (hs 7 rfl) ((HE.out.to hb).get 1 rfl)) | 14, _, _ => exact aG (hd 7 rfl) (op_call2 rfl rfl Tryz.call55 (by rw [(show aa.eval (.tmp 32) = .agg #[.int .i64 ((nthM ms (j - 1)).x), .int .i64 ((nthM ms (j - 1)).y), .int .i64 ((nthM ms (j - 1)).t), .bool ((nthM ms (j - 1)).f)] from (hd 12 rfl)), (show aa.eval (.tmp 33) = .agg #[.int .i64 ((nthM ms j).x), .int .i64 ((nthM ms j).y), .int .i64 ((nthM ms j).t), .bool ((nthM ms j).f)] from (hd 13 rfl))]; exact byOrder_got (nthM ms (j - 1)) (nthM ms j) _)) | 15, _, _ => exact aG (hd 7 rfl) (pure_b (bool_eq (decide_eq_true hor)) (⟨_, op_geqI rfl (hd 14 rfl) rfl, rfl⟩)) | 16, _, _ => exact aG (hd 4 rfl) ⟨_, op_pickT rfl (hd 7 rfl) (hd 15 rfl), rfl⟩ | 17, _, _ => exact aL ⟨_, op_pickF rfl (hd 4 rfl) (hd 16 rfl), rfl⟩ | qi + 18, h, _ => omega
    intro vs X3 hb hv hal hne; replace HB := Hd.mk (bel_then HB.out hb); replace HE := Hd.mk (HE.out.to hb); have HML := Hd.mk HM.out.lt; replace HM := Hd.mk (HM.out.to hb); have e37 : vs 37 = .bool true := hv 17 (by decide) rfl; simp only [PA, e37]; clear hv hal hne hb e37 HML; go_upto_region 6 with fail
    refine wp_region_vd 0 [] [] [] 63 [.int .i64 0, .int .i64 0] [] (by rfl) alloc_Z ?_ ?_
    ·intro qi qh qA aa wx hb hs hd
     match qi, qh, qA with
     | qi + 0, h, _ => omega
    intro vs X4 hb hv hal hne; replace HB := Hd.mk (bel_then HB.out hb); replace HE := Hd.mk (HE.out.to hb); have HML := Hd.mk HM.out.lt; replace HM := Hd.mk (HM.out.to hb); simp only [PA]; clear hv hal hne hb HML; go_wp2_with fail
    go_ret
    exact ⟨_, rfl, HB.out, by rw [HF.out]; rfl⟩
   have HSJ := Hd.mk (show stepB Wd Ht ms j = true from by unfold stepB; rw [HAL.out, decide_eq_false hj0, decide_eq_true (show ordM (nthM ms (j - 1)) (nthM ms j) < 0 by omega)]; rfl); go_upto_region 5 with fail
   refine wp_region_vg 18 [20, 21, 22, 23, 24, 25, 26, 27, 28, 29, 30, 31, 32, 33, 34, 35, 36, 37] [3, 4, 5, 6, 7, 8, 9, 10, 15, 16, 17] [] 63 [.int .i64 0, .int .i64 0] [isV (.agg #[.int .i64 Wd, .int .i64 Ht]), isV (.agg #[.int .i64 ((nthM ms j).x), .int .i64 ((nthM ms j).y), .int .i64 ((nthM ms j).t), .bool ((nthM ms j).f)]), qT, qF, qF, qI ((j : Nat) : Int), qT, qT, isV (.slice (some ad) ms.length k), qI ((j : Nat) : Int), qI ((j - 1 : Nat) : Int), isV (.pointer (some (ad.add ((j - 1) * 4)))), isV (.agg #[.int .i64 ((nthM ms (j - 1)).x), .int .i64 ((nthM ms (j - 1)).y), .int .i64 ((nthM ms (j - 1)).t), .bool ((nthM ms (j - 1)).f)]), isV (.agg #[.int .i64 ((nthM ms j).x), .int .i64 ((nthM ms j).y), .int .i64 ((nthM ms j).t), .bool ((nthM ms j).f)]), qI (ordM (nthM ms (j - 1)) (nthM ms j)), qF, qF, qF] (by kernel_rfl) (by kernel_rfl) (by kernel_rfl) (by rfl) alloc_Z (fun d v c a w h => by cases d <;> exact h) ?_ ?_
   ·intro qi qh qA aa wx hb hs hd
    match qi, qh, qA with
    | 0, _, _ => exact aL (op_ldZ rfl rfl (hs 2 rfl) ((HE.out.to hb).get 0 rfl)) | 1, _, _ => exact aL (op_ldM rfl rfl (hs 7 rfl) ((HE.out.to hb).get 1 rfl)) | 2, _, _ => exact aL (wp_b (bool_eq HAL.out) (op_call2 rfl rfl Tryz.call52 (by rw [(show aa.eval (.tmp 20) = .agg #[.int .i64 Wd, .int .i64 Ht] from (hd 0 rfl)), (show aa.eval (.tmp 21) = .agg #[.int .i64 ((nthM ms j).x), .int .i64 ((nthM ms j).y), .int .i64 ((nthM ms j).t), .bool ((nthM ms j).f)] from (hd 1 rfl))]; exact allows_got Wd Ht ((nthM ms j).x) ((nthM ms j).y) ((nthM ms j).t) ((nthM ms j).f) _))) | 3, _, _ => exact aL ⟨_, op_not rfl (hd 2 rfl), rfl⟩ | 4, _, _ => exact aL (op_mv rfl (hd 3 rfl)) | 5, _, _ => exact aG (hd 4 rfl) (op_mv rfl (hs 6 rfl)) | 6, _, _ => exact aG (hd 4 rfl) (pure_b (bool_eq (decide_eq_true (by omega))) (⟨_, op_gtrI rfl (hd 5 rfl) rfl, rfl⟩)) | 7, _, _ => exact aG (hd 4 rfl) (op_mv rfl (hd 6 rfl)) | 8, _, _ => exact aG (hd 7 rfl) (op_mv rfl (hs 1 rfl)) | 9, _, _ => exact aG (hd 7 rfl) (op_mv rfl (hs 6 rfl)) | 10, _, _ => exact aG (hd 7 rfl) (pure_b (int_eq (by omega)) (⟨_, op_sub (by unfold Fit; omega) rfl (hd 9 rfl) rfl, rfl⟩)) | 11, _, _ => exact aG (hd 7 rfl) (op_run rfl (op_idxVM hjm rfl (hd 8 rfl) (hd 10 rfl) _) rfl) | 12, _, _ => exact aG (hd 7 rfl) (op_ldvVM rfl rfl (hd 11 rfl) ((HRM.out.to (bel_then HB.out hb)).at_ (at_nthM hjm))) | 13, _, _ => exact aG (hd 7 rfl) (op_ldM rfl rfl (hs 7 rfl) ((HE.out.to hb).get 1 rfl)) | 14, _, _ => exact aG (hd 7 rfl) (op_call2 rfl rfl Tryz.call55 (by rw [(show aa.eval (.tmp 32) = .agg #[.int .i64 ((nthM ms (j - 1)).x), .int .i64 ((nthM ms (j - 1)).y), .int .i64 ((nthM ms (j - 1)).t), .bool ((nthM ms (j - 1)).f)] from (hd 12 rfl)), (show aa.eval (.tmp 33) = .agg #[.int .i64 ((nthM ms j).x), .int .i64 ((nthM ms j).y), .int .i64 ((nthM ms j).t), .bool ((nthM ms j).f)] from (hd 13 rfl))]; exact byOrder_got (nthM ms (j - 1)) (nthM ms j) _)) | 15, _, _ => exact aG (hd 7 rfl) (pure_b (bool_eq (decide_eq_false hor)) (⟨_, op_geqI rfl (hd 14 rfl) rfl, rfl⟩)) | 16, _, _ => exact aG (hd 4 rfl) ⟨_, op_pickT rfl (hd 7 rfl) (hd 15 rfl), rfl⟩ | 17, _, _ => exact aL ⟨_, op_pickF rfl (hd 4 rfl) (hd 16 rfl), rfl⟩ | qi + 18, h, _ => omega
   intro vs X3 hb hv hal hne; replace HB := Hd.mk (bel_then HB.out hb); replace HE := Hd.mk (HE.out.to hb); have HML := Hd.mk HM.out.lt; replace HM := Hd.mk (HM.out.to hb); have e37 : vs 37 = .bool false := hv 17 (by decide) rfl; simp only [PA, e37]; clear hv hal hne hb e37 HML; go_upto_region 7 with fail
   refine wp_region_vd 2 [38, 39] [0] [] 63 [.int .i64 0, .int .i64 0] [isV (.map (some bm)), isV (.agg #[.int .i64 ((nthM ms j).x), .int .i64 ((nthM ms j).y), .int .i64 ((nthM ms j).t), .bool ((nthM ms j).f)])] (by rfl) alloc_Z ?_ ?_
   ·intro qi qh qA aa wx hb hs hd
    match qi, qh, qA with
    | 0, _, _ => exact aL (op_mv rfl (hs 5 rfl)) | 1, _, _ => exact aL (op_ldM rfl rfl (hs 7 rfl) ((HE.out.to hb).get 1 rfl)) | qi + 2, h, _ => omega
   intro vs X4 hb hv hal hne; replace HB := Hd.mk (bel_then HB.out hb); replace HE := Hd.mk (HE.out.to hb); have HML := Hd.mk HM.out.lt; replace HM := Hd.mk (HM.out.to hb); have e38 : vs 38 = .map (some bm) := hv 0 (by decide) rfl; have e39 : vs 39 = .agg #[.int .i64 ((nthM ms j).x), .int .i64 ((nthM ms j).y), .int .i64 ((nthM ms j).t), .bool ((nthM ms j).f)] := hv 1 (by decide) rfl; simp only [PA, e38, e39]; clear hv hal hne hb e38 e39 HML; refine wpList_mapM (m := nthM ms j) rfl rfl rfl rfl rfl rfl HM.out (al_of (f := (nthM ms j).f) HS.out HAL.out).wf (by rw [List.length_take]; unfold maxLen; omega) ?_; intro wm hm1 hg1; have HE1 := Env.grown (Env.front (L := [⟨w.heap.size, 63, [.int .i64 Wd, .int .i64 Ht]⟩]) HE.out) hg1 (fun e he => by rw [List.mem_singleton.1 he]; exact Nat.ne_of_lt HBM.out); have HB1 := HB.out.grown hg1 HB.out.size (fun z hz => by cases hz; exact Nat.le_of_lt HBM.out); have HM1 : MapM wm bm (ms.take (j + 1)) := by rw [List.take_add_one, at_nthM hj]; exact hm1
   replace HE := Hd.mk HE1; replace HB := Hd.mk HB1; replace HM := Hd.mk HM1; clear HE1 HB1 HM1 hm1 hg1; go_wp2_with fail
   go_roundw
   case rel => exact ⟨j + 1, by omega, by go_num, ⟨HE.out, HM.out, HB.out⟩, fun i hi => by
    by_cases e : i = j
    ·rw [e]; exact HSJ.out
    exact HST.out i (by omega)⟩
   case measure => simp [intOf]; omega
  have e1 : j = ms.length := by omega
  have HM1 : MapM wr bm ms := by have h := HM.out; rw [e1, List.take_length] at h; exact h
  replace HM := Hd.mk HM1; have HST1 : Hd (∀ i, i < ms.length → stepB Wd Ht ms i = true) := ⟨fun i hi => HST.out i (by omega)⟩
  have HALL : Hd (∀ i, i < ms.length → Al Wd Ht (nthM ms i)) := ⟨fun i hi => by
   have h := HST1.out i hi; unfold stepB at h; rw [Bool.and_eq_true] at h
   exact al_of (f := (nthM ms i).f) HS.out h.1⟩
  clear HM1 HST; cases hz0 : memB ⟨0, 0, 0, false⟩ ms
  ·have HZ := Hd.mk hz0; clear hz0; go_upto_region 9 with fail
   refine wp_region_vd 4 [41, 42, 43, 44] [0, 1, 3] [] 63 [.int .i64 0, .int .i64 0] [isV (.map (some bm)), isV (.agg #[.int .i64 0, .int .i64 0, .int .i64 0, .bool false]), qF, qT] (by rfl) alloc_Z ?_ ?_
   ·intro qi qh qA aa wx hb hs hd
    match qi, qh, qA with
    | 0, _, _ => exact aL (op_mv rfl (hs 5 rfl)) | 1, _, _ => exact aL ⟨_, op_b0M rfl, rfl⟩ | 2, _, _ => exact aL (wp_b (bool_eq HZ.out) (op_lookM (m := ⟨0, 0, 0, false⟩) rfl rfl (hd 0 rfl) (hd 1 rfl) (HM.out.to hb) wf_zero)) | 3, _, _ => exact aL ⟨_, op_not rfl (hd 2 rfl), rfl⟩ | qi + 4, h, _ => omega
   intro vs X1 hb hv hal hne; replace HB := Hd.mk (bel_then HB.out hb); replace HE := Hd.mk (HE.out.to hb); have HML := Hd.mk HM.out.lt; replace HM := Hd.mk (HM.out.to hb); have e44 : vs 44 = .bool true := hv 3 (by decide) rfl; simp only [PA, e44]; clear hv hal hne hb e44 HML; go_upto_region 10 with fail
   refine wp_region_vd 0 [] [] [] 63 [.int .i64 0, .int .i64 0] [] (by rfl) alloc_Z ?_ ?_
   ·intro qi qh qA aa wx hb hs hd
    match qi, qh, qA with
    | qi + 0, h, _ => omega
   intro vs X2 hb hv hal hne; replace HB := Hd.mk (bel_then HB.out hb); replace HE := Hd.mk (HE.out.to hb); have HML := Hd.mk HM.out.lt; replace HM := Hd.mk (HM.out.to hb); simp only [PA]; clear hv hal hne hb HML; go_wp2_with fail
   go_ret
   exact ⟨_, rfl, HB.out, by rw [(gB_zero HZ.out)]; rfl⟩
  have HZ := Hd.mk hz0; clear hz0; go_upto_region 9 with fail
  refine wp_region_vd 4 [41, 42, 43, 44] [0, 1, 3] [] 63 [.int .i64 0, .int .i64 0] [isV (.map (some bm)), isV (.agg #[.int .i64 0, .int .i64 0, .int .i64 0, .bool false]), qT, qF] (by rfl) alloc_Z ?_ ?_
  ·intro qi qh qA aa wx hb hs hd
   match qi, qh, qA with
   | 0, _, _ => exact aL (op_mv rfl (hs 5 rfl)) | 1, _, _ => exact aL ⟨_, op_b0M rfl, rfl⟩ | 2, _, _ => exact aL (wp_b (bool_eq HZ.out) (op_lookM (m := ⟨0, 0, 0, false⟩) rfl rfl (hd 0 rfl) (hd 1 rfl) (HM.out.to hb) wf_zero)) | 3, _, _ => exact aL ⟨_, op_not rfl (hd 2 rfl), rfl⟩ | qi + 4, h, _ => omega
  intro vs X1 hb hv hal hne; replace HB := Hd.mk (bel_then HB.out hb); replace HE := Hd.mk (HE.out.to hb); have HML := Hd.mk HM.out.lt; replace HM := Hd.mk (HM.out.to hb); have e44 : vs 44 = .bool false := hv 3 (by decide) rfl; simp only [PA, e44]; clear hv hal hne hb e44 HML; go_upto_region 11 with fail
  refine wp_region_vd 3 [45, 46, 47] [0, 2] [] 63 [.int .i64 0, .int .i64 0] [isV (.slice A ms.length k), qI ((ms.length : Nat) : Int), qI 0] (by rfl) alloc_Z ?_ ?_
  ·intro qi qh qA aa wx hb hs hd
   match qi, qh, qA with
   | 0, _, _ => exact aL (op_mv rfl (hs 1 rfl)) | 1, _, _ => exact aL (op_lenvVM rfl rfl (hd 0 rfl)) | 2, _, _ => exact aL (op_mv rfl rfl) | qi + 3, h, _ => omega
  intro vs X2 hb hv hal hne; replace HB := Hd.mk (bel_then HB.out hb); replace HE := Hd.mk (HE.out.to hb); have HML := Hd.mk HM.out.lt; replace HM := Hd.mk (HM.out.to hb); have e45 : vs 45 = .slice A ms.length k := hv 0 (by decide) rfl; have e46 : vs 46 = .int .i64 (((ms.length : Nat) : Int)) := hv 1 (by decide) rfl; have e47 : vs 47 = .int .i64 0 := hv 2 (by decide) rfl; simp only [PA, e45, e46, e47]; clear hv hal hne hb e45 e46 e47 HML; go_wp2_with fail
  go_loopw [47] (fun s47 wr => ∃ i : Nat, i ≤ ms.length ∧ s47 = .int .i64 i ∧ (Env wr [⟨w.heap.size, 63, [.int .i64 Wd, .int .i64 Ht]⟩] ∧ MapM wr bm ms ∧ Below w.heap.size w wr) ∧ ∀ a b, a < i → b < ms.length → memB (aftM Wd Ht (nthM ms a) (nthM ms b)) ms = true) (fun s47 _ => ms.length - (intOf s47).toNat)
  case atStart => exact ⟨0, Nat.zero_le _, rfl, ⟨HE.out, HM.out, HB.out⟩, fun a b ha => by omega⟩
  case round =>
   obtain ⟨i, hil, rfl, ⟨he, hmm, hb⟩, hcl⟩ := hrel; have HCL := Hd.mk hcl; clear HB HE HM hcl; have HB := Hd.mk hb; have HM := Hd.mk hmm; have HE : Hd (Env wr [⟨w.heap.size, 63, [.int .i64 Wd, .int .i64 Ht]⟩]) := ⟨he⟩; clear he hmm hb; by_cases hi : i < ms.length
   ·obtain ⟨ad, rfl⟩ := HRM.out.some_ (at_nthM hi); go_upto_region 13 with fail
    refine wp_region_vd 3 [49, 50, 9] [] [2] 65 [.int .i64 0, .int .i64 0, .int .i64 0, .bool false] [isV (.pointer (some (ad.add (i * 4)))), isV (.agg #[.int .i64 ((nthM ms i).x), .int .i64 ((nthM ms i).y), .int .i64 ((nthM ms i).t), .bool ((nthM ms i).f)]), SP.any] (by rfl) alloc_M ?_ ?_
    ·intro qi qh qA aa wx hb hs hd
     match qi, qh, qA with
     | 0, _, _ => exact aL (op_run rfl (op_idxVM hi rfl (hs 45 rfl) (hs 47 rfl) _) rfl) | 1, _, _ => exact aL (op_ldvVM rfl rfl (hd 0 rfl) ((HRM.out.to (bel_then HB.out hb)).at_ (at_nthM hi))) | 2, _, h => cases h | qi + 3, h, _ => omega
    intro vs X1 hb hv hal hne; have HL0 := Hd.mk (HE.out.lt); have HBW := HB; replace HB := Hd.mk (bel_then HB.out hb); replace HE := Hd.mk (HE.out.to hb); have HML := Hd.mk HM.out.lt; replace HM := Hd.mk (HM.out.to hb); have e50 : vs 50 = .agg #[.int .i64 ((nthM ms i).x), .int .i64 ((nthM ms i).y), .int .i64 ((nthM ms i).t), .bool ((nthM ms i).f)] := hv 1 (by decide) rfl; obtain ⟨g9, e9, l9, b9⟩ : ∃ g, vs 9 = .pointer (some ⟨g, 0, none⟩) ∧ _ := hal 2 rfl; replace HE : Hd (Env X1 [⟨w.heap.size, 63, [.int .i64 Wd, .int .i64 Ht]⟩, ⟨g9, 65, [.int .i64 0, .int .i64 0, .int .i64 0, .bool false]⟩]) := ⟨Env.addne (e := ⟨g9, 65, [.int .i64 0, .int .i64 0, .int .i64 0, .bool false]⟩) HE.out b9 (fun e' he => Nat.ne_of_lt (Nat.lt_of_lt_of_le (HL0.out e' he) l9))⟩; have HMG9 : Hd (bm < g9) := ⟨Nat.lt_of_lt_of_le HML.out l9⟩; have G9 : Hd (w.heap.size ≤ g9) := ⟨Nat.le_trans HBW.out.size l9⟩; simp only [PA, e50, e9]; clear hv hal hne hb HL0 HBW e50 e9 l9 b9 HML; refine wpList_st rfl rfl rfl rfl rfl (sto_M (HE.out.get 1 rfl)) ?_; have HE' : Env (putL X1 g9 0 [.int .i64 ((nthM ms i).x), .int .i64 ((nthM ms i).y), .int .i64 ((nthM ms i).t), .bool ((nthM ms i).f)]) [⟨w.heap.size, 63, [.int .i64 Wd, .int .i64 Ht]⟩, ⟨g9, 65, [.int .i64 ((nthM ms i).x), .int .i64 ((nthM ms i).y), .int .i64 ((nthM ms i).t), .bool ((nthM ms i).f)]⟩] := HE.out.putF 1 rfl rfl; have HB' := putL_below (show w.heap.size ≤ g9 from G9.out) [.int .i64 ((nthM ms i).x), .int .i64 ((nthM ms i).y), .int .i64 ((nthM ms i).t), .bool ((nthM ms i).f)] _ 0 HB.out; replace HM := Hd.mk (HM.out.put (vs := [.int .i64 ((nthM ms i).x), .int .i64 ((nthM ms i).y), .int .i64 ((nthM ms i).t), .bool ((nthM ms i).f)]) (o := 0) HMG9.out); generalize putL X1 g9 0 [.int .i64 ((nthM ms i).x), .int .i64 ((nthM ms i).y), .int .i64 ((nthM ms i).t), .bool ((nthM ms i).f)] = X2 at *; replace HE := Hd.mk HE'; replace HB := Hd.mk HB'; clear HE' HB'; go_upto_region 14 with fail
    refine wp_region_vd 3 [51, 52, 53] [0, 2] [] 63 [.int .i64 0, .int .i64 0] [isV (.slice (some ad) ms.length k), qI ((ms.length : Nat) : Int), qI 0] (by rfl) alloc_Z ?_ ?_
    ·intro qi qh qA aa wx hb hs hd
     match qi, qh, qA with
     | 0, _, _ => exact aL (op_mv rfl (hs 1 rfl)) | 1, _, _ => exact aL (op_lenvVM rfl rfl (hd 0 rfl)) | 2, _, _ => exact aL (op_mv rfl rfl) | qi + 3, h, _ => omega
    intro vs X3 hb hv hal hne; replace HB := Hd.mk (bel_then HB.out hb); replace HE := Hd.mk (HE.out.to hb); have HML := Hd.mk HM.out.lt; replace HM := Hd.mk (HM.out.to hb); have e51 : vs 51 = .slice (some ad) ms.length k := hv 0 (by decide) rfl; have e52 : vs 52 = .int .i64 (((ms.length : Nat) : Int)) := hv 1 (by decide) rfl; have e53 : vs 53 = .int .i64 0 := hv 2 (by decide) rfl; simp only [PA, e51, e52, e53]; clear hv hal hne hb e51 e52 e53 HML; go_wp2_with fail
    go_loopw [53] (fun s53 wr => ∃ j : Nat, j ≤ ms.length ∧ s53 = .int .i64 j ∧ (Env wr [⟨w.heap.size, 63, [.int .i64 Wd, .int .i64 Ht]⟩, ⟨g9, 65, [.int .i64 ((nthM ms i).x), .int .i64 ((nthM ms i).y), .int .i64 ((nthM ms i).t), .bool ((nthM ms i).f)]⟩] ∧ MapM wr bm ms ∧ Below w.heap.size w wr) ∧ ∀ b, b < j → memB (aftM Wd Ht (nthM ms i) (nthM ms b)) ms = true) (fun s53 _ => ms.length - (intOf s53).toNat)
    case atStart => exact ⟨0, Nat.zero_le _, rfl, ⟨HE.out, HM.out, HB.out⟩, fun b hb => by omega⟩
    case round =>
     obtain ⟨j, hjl, rfl, ⟨he, hmm, hb⟩, hrow⟩ := hrel; have HROW := Hd.mk hrow; clear HB HE HM hrow; have HB := Hd.mk hb; have HM := Hd.mk hmm; have HE : Hd (Env wr [⟨w.heap.size, 63, [.int .i64 Wd, .int .i64 Ht]⟩, ⟨g9, 65, [.int .i64 ((nthM ms i).x), .int .i64 ((nthM ms i).y), .int .i64 ((nthM ms i).t), .bool ((nthM ms i).f)]⟩]) := ⟨he⟩; clear he hmm hb; by_cases hj : j < ms.length
     ·skip
      go_upto_region 16 with fail
      refine wp_region_vd 3 [55, 56, 11] [] [2] 65 [.int .i64 0, .int .i64 0, .int .i64 0, .bool false] [isV (.pointer (some (ad.add (j * 4)))), isV (.agg #[.int .i64 ((nthM ms j).x), .int .i64 ((nthM ms j).y), .int .i64 ((nthM ms j).t), .bool ((nthM ms j).f)]), SP.any] (by rfl) alloc_M ?_ ?_
      ·intro qi qh qA aa wx hb hs hd
       match qi, qh, qA with
       | 0, _, _ => exact aL (op_run rfl (op_idxVM hj rfl (hs 51 rfl) (hs 53 rfl) _) rfl) | 1, _, _ => exact aL (op_ldvVM rfl rfl (hd 0 rfl) ((HRM.out.to (bel_then HB.out hb)).at_ (at_nthM hj))) | 2, _, h => cases h | qi + 3, h, _ => omega
      intro vs X1 hb hv hal hne; have HL0 := Hd.mk (HE.out.lt); have HBW := HB; replace HB := Hd.mk (bel_then HB.out hb); replace HE := Hd.mk (HE.out.to hb); have HML := Hd.mk HM.out.lt; replace HM := Hd.mk (HM.out.to hb); have e56 : vs 56 = .agg #[.int .i64 ((nthM ms j).x), .int .i64 ((nthM ms j).y), .int .i64 ((nthM ms j).t), .bool ((nthM ms j).f)] := hv 1 (by decide) rfl; obtain ⟨g11, e11, l11, b11⟩ : ∃ g, vs 11 = .pointer (some ⟨g, 0, none⟩) ∧ _ := hal 2 rfl; replace HE : Hd (Env X1 [⟨w.heap.size, 63, [.int .i64 Wd, .int .i64 Ht]⟩, ⟨g9, 65, [.int .i64 ((nthM ms i).x), .int .i64 ((nthM ms i).y), .int .i64 ((nthM ms i).t), .bool ((nthM ms i).f)]⟩, ⟨g11, 65, [.int .i64 0, .int .i64 0, .int .i64 0, .bool false]⟩]) := ⟨Env.addne (e := ⟨g11, 65, [.int .i64 0, .int .i64 0, .int .i64 0, .bool false]⟩) HE.out b11 (fun e' he => Nat.ne_of_lt (Nat.lt_of_lt_of_le (HL0.out e' he) l11))⟩; have HMG11 : Hd (bm < g11) := ⟨Nat.lt_of_lt_of_le HML.out l11⟩; have G11 : Hd (w.heap.size ≤ g11) := ⟨Nat.le_trans HBW.out.size l11⟩; simp only [PA, e56, e11]; clear hv hal hne hb HL0 HBW e56 e11 l11 b11 HML; refine wpList_st rfl rfl rfl rfl rfl (sto_M (HE.out.get 2 rfl)) ?_; have HE' : Env (putL X1 g11 0 [.int .i64 ((nthM ms j).x), .int .i64 ((nthM ms j).y), .int .i64 ((nthM ms j).t), .bool ((nthM ms j).f)]) [⟨w.heap.size, 63, [.int .i64 Wd, .int .i64 Ht]⟩, ⟨g9, 65, [.int .i64 ((nthM ms i).x), .int .i64 ((nthM ms i).y), .int .i64 ((nthM ms i).t), .bool ((nthM ms i).f)]⟩, ⟨g11, 65, [.int .i64 ((nthM ms j).x), .int .i64 ((nthM ms j).y), .int .i64 ((nthM ms j).t), .bool ((nthM ms j).f)]⟩] := HE.out.putF 2 rfl rfl; have HB' := putL_below (show w.heap.size ≤ g11 from G11.out) [.int .i64 ((nthM ms j).x), .int .i64 ((nthM ms j).y), .int .i64 ((nthM ms j).t), .bool ((nthM ms j).f)] _ 0 HB.out; replace HM := Hd.mk (HM.out.put (vs := [.int .i64 ((nthM ms j).x), .int .i64 ((nthM ms j).y), .int .i64 ((nthM ms j).t), .bool ((nthM ms j).f)]) (o := 0) HMG11.out); generalize putL X1 g11 0 [.int .i64 ((nthM ms j).x), .int .i64 ((nthM ms j).y), .int .i64 ((nthM ms j).t), .bool ((nthM ms j).f)] = X2 at *; replace HE := Hd.mk HE'; replace HB := Hd.mk HB'; clear HE' HB'; cases hin : memB (aftM Wd Ht (nthM ms i) (nthM ms j)) ms
      ·have HIN := Hd.mk hin; clear hin; go_upto_region 17 with fail
       refine wp_region_vd 7 [57, 58, 59, 60, 61, 62, 63] [0, 6] [] 63 [.int .i64 0, .int .i64 0] [isV (.map (some bm)), isV (.agg #[.int .i64 Wd, .int .i64 Ht]), isV (.agg #[.int .i64 ((nthM ms i).x), .int .i64 ((nthM ms i).y), .int .i64 ((nthM ms i).t), .bool ((nthM ms i).f)]), isV (.agg #[.int .i64 ((nthM ms j).x), .int .i64 ((nthM ms j).y), .int .i64 ((nthM ms j).t), .bool ((nthM ms j).f)]), isV (.agg #[.int .i64 ((aftM Wd Ht (nthM ms i) (nthM ms j)).x), .int .i64 ((aftM Wd Ht (nthM ms i) (nthM ms j)).y), .int .i64 ((aftM Wd Ht (nthM ms i) (nthM ms j)).t), .bool ((aftM Wd Ht (nthM ms i) (nthM ms j)).f)]), qF, qT] (by rfl) alloc_Z ?_ ?_
       ·intro qi qh qA aa wx hb hs hd
        match qi, qh, qA with
        | 0, _, _ => exact aL (op_mv rfl (hs 5 rfl)) | 1, _, _ => exact aL (op_ldZ rfl rfl (hs 2 rfl) ((HE.out.to hb).get 0 rfl)) | 2, _, _ => exact aL (op_ldM rfl rfl (hs 9 rfl) ((HE.out.to hb).get 1 rfl)) | 3, _, _ => exact aL (op_ldM rfl rfl (hs 11 rfl) ((HE.out.to hb).get 2 rfl)) | 4, _, _ => exact aL (op_call3 rfl rfl Tryz.call53 (by rw [(show aa.eval (.tmp 58) = .agg #[.int .i64 Wd, .int .i64 Ht] from (hd 1 rfl)), (show aa.eval (.tmp 59) = .agg #[.int .i64 ((nthM ms i).x), .int .i64 ((nthM ms i).y), .int .i64 ((nthM ms i).t), .bool ((nthM ms i).f)] from (hd 2 rfl)), (show aa.eval (.tmp 60) = .agg #[.int .i64 ((nthM ms j).x), .int .i64 ((nthM ms j).y), .int .i64 ((nthM ms j).t), .bool ((nthM ms j).f)] from (hd 3 rfl))]; exact after_got Wd Ht (nthM ms i).x (nthM ms i).y (nthM ms i).t (nthM ms j).x (nthM ms j).y (nthM ms j).t (nthM ms i).f (nthM ms j).f (HALL.out i hi).okm (HALL.out j hj).okm _)) | 5, _, _ => exact aL (wp_b (bool_eq HIN.out) (op_lookM rfl rfl (hd 0 rfl) (hd 4 rfl) (HM.out.to hb) (aft_al (HALL.out i hi) (HALL.out j hj)).wf)) | 6, _, _ => exact aL ⟨_, op_not rfl (hd 5 rfl), rfl⟩ | qi + 7, h, _ => omega
       intro vs X3 hb hv hal hne; replace HB := Hd.mk (bel_then HB.out hb); replace HE := Hd.mk (HE.out.to hb); have HML := Hd.mk HM.out.lt; replace HM := Hd.mk (HM.out.to hb); have e63 : vs 63 = .bool true := hv 6 (by decide) rfl; simp only [PA, e63]; clear hv hal hne hb e63 HML; go_upto_region 18 with fail
       refine wp_region_vd 0 [] [] [] 63 [.int .i64 0, .int .i64 0] [] (by rfl) alloc_Z ?_ ?_
       ·intro qi qh qA aa wx hb hs hd
        match qi, qh, qA with
        | qi + 0, h, _ => omega
       intro vs X4 hb hv hal hne; replace HB := Hd.mk (bel_then HB.out hb); replace HE := Hd.mk (HE.out.to hb); have HML := Hd.mk HM.out.lt; replace HM := Hd.mk (HM.out.to hb); simp only [PA]; clear hv hal hne hb HML; go_wp2_with fail
       go_ret
       exact ⟨_, rfl, HB.out, by rw [(gB_clos hi hj HIN.out)]; rfl⟩
      have HIN := Hd.mk hin; clear hin; go_upto_region 17 with fail
      refine wp_region_vd 7 [57, 58, 59, 60, 61, 62, 63] [0, 6] [] 63 [.int .i64 0, .int .i64 0] [isV (.map (some bm)), isV (.agg #[.int .i64 Wd, .int .i64 Ht]), isV (.agg #[.int .i64 ((nthM ms i).x), .int .i64 ((nthM ms i).y), .int .i64 ((nthM ms i).t), .bool ((nthM ms i).f)]), isV (.agg #[.int .i64 ((nthM ms j).x), .int .i64 ((nthM ms j).y), .int .i64 ((nthM ms j).t), .bool ((nthM ms j).f)]), isV (.agg #[.int .i64 ((aftM Wd Ht (nthM ms i) (nthM ms j)).x), .int .i64 ((aftM Wd Ht (nthM ms i) (nthM ms j)).y), .int .i64 ((aftM Wd Ht (nthM ms i) (nthM ms j)).t), .bool ((aftM Wd Ht (nthM ms i) (nthM ms j)).f)]), qT, qF] (by rfl) alloc_Z ?_ ?_
      ·intro qi qh qA aa wx hb hs hd
       match qi, qh, qA with
       | 0, _, _ => exact aL (op_mv rfl (hs 5 rfl)) | 1, _, _ => exact aL (op_ldZ rfl rfl (hs 2 rfl) ((HE.out.to hb).get 0 rfl)) | 2, _, _ => exact aL (op_ldM rfl rfl (hs 9 rfl) ((HE.out.to hb).get 1 rfl)) | 3, _, _ => exact aL (op_ldM rfl rfl (hs 11 rfl) ((HE.out.to hb).get 2 rfl)) | 4, _, _ => exact aL (op_call3 rfl rfl Tryz.call53 (by rw [(show aa.eval (.tmp 58) = .agg #[.int .i64 Wd, .int .i64 Ht] from (hd 1 rfl)), (show aa.eval (.tmp 59) = .agg #[.int .i64 ((nthM ms i).x), .int .i64 ((nthM ms i).y), .int .i64 ((nthM ms i).t), .bool ((nthM ms i).f)] from (hd 2 rfl)), (show aa.eval (.tmp 60) = .agg #[.int .i64 ((nthM ms j).x), .int .i64 ((nthM ms j).y), .int .i64 ((nthM ms j).t), .bool ((nthM ms j).f)] from (hd 3 rfl))]; exact after_got Wd Ht (nthM ms i).x (nthM ms i).y (nthM ms i).t (nthM ms j).x (nthM ms j).y (nthM ms j).t (nthM ms i).f (nthM ms j).f (HALL.out i hi).okm (HALL.out j hj).okm _)) | 5, _, _ => exact aL (wp_b (bool_eq HIN.out) (op_lookM rfl rfl (hd 0 rfl) (hd 4 rfl) (HM.out.to hb) (aft_al (HALL.out i hi) (HALL.out j hj)).wf)) | 6, _, _ => exact aL ⟨_, op_not rfl (hd 5 rfl), rfl⟩ | qi + 7, h, _ => omega
      intro vs X3 hb hv hal hne; replace HB := Hd.mk (bel_then HB.out hb); replace HE := Hd.mk (HE.out.to hb); have HML := Hd.mk HM.out.lt; replace HM := Hd.mk (HM.out.to hb); have e63 : vs 63 = .bool false := hv 6 (by decide) rfl; simp only [PA, e63]; clear hv hal hne hb e63 HML; go_wp2_with fail
      go_roundw
      case rel => exact ⟨j + 1, by omega, by go_num, ⟨Env.front (L := [⟨w.heap.size, 63, [.int .i64 Wd, .int .i64 Ht]⟩, ⟨g9, 65, [.int .i64 ((nthM ms i).x), .int .i64 ((nthM ms i).y), .int .i64 ((nthM ms i).t), .bool ((nthM ms i).f)]⟩]) HE.out, HM.out, HB.out⟩, fun b hb => by
       by_cases e : b = j
       ·rw [e]; exact HIN.out
       exact HROW.out b (by omega)⟩
      case measure => simp [intOf]; omega
     have e2 : j = ms.length := by omega
     go_wp2_with fail
     go_roundw
     case rel => exact ⟨i + 1, by omega, by go_num, ⟨Env.front (L := [⟨w.heap.size, 63, [.int .i64 Wd, .int .i64 Ht]⟩]) HE.out, HM.out, HB.out⟩, fun a b ha hb => by
      by_cases e : a = i
      ·rw [e]; exact HROW.out b (by omega)
      exact HCL.out a b (by omega) hb⟩
     case measure => simp [intOf]; omega
   have HY := Hd.mk (gB_yes HST1.out HZ.out (fun a b ha hb => HCL.out a b (by omega) hb)); go_wp2_with fail
   go_ret
   exact ⟨_, rfl, HB.out, by rw [HY.out]; rfl⟩
theorem mul_b {a b A B : Int} (ha : 0 ≤ a ∧ a ≤ A) (hb : 0 ≤ b ∧ b ≤ B) : 0 ≤ a * b ∧ a * b ≤ A * B :=
 ⟨Int.mul_nonneg ha.1 hb.1, Int.mul_le_mul ha.2 hb.2 hb.1 (by omega)⟩
def numM (W H : Int) (m : Mv) : Int := (m.t * W + m.x) * H + m.y + (if m.f = true then 4 * W * H else 0)
theorem num_digits {W H a b x y : Int} (hx : 0 ≤ x ∧ x < H) (hy : 0 ≤ y ∧ y < H) (h : a * H + x = b * H + y) : a = b ∧ x = y := by
 have e1 : (a * H + x) / H = a := by rw [Int.add_comm, Int.add_mul_ediv_right _ _ (by omega), Int.ediv_eq_zero_of_lt hx.1 hx.2, Int.zero_add]
 have e2 : (b * H + y) / H = b := by rw [Int.add_comm, Int.add_mul_ediv_right _ _ (by omega), Int.ediv_eq_zero_of_lt hy.1 hy.2, Int.zero_add]
 have : a = b := by rw [← e1, h, e2]
 subst this; exact ⟨rfl, by omega⟩
section
variable {W H : Int} {m n : Mv}
theorem num_low (h : Al W H m) : 0 ≤ (m.t * W + m.x) * H + m.y ∧ (m.t * W + m.x) * H + m.y < 4 * W * H := by
 have hw := h.w; have hh := h.h; have hx := h.x; have hy := h.y; have ht := h.t; have b1 := mul_b (a := m.t) (b := W) (A := 3) (B := W) (by omega) (by omega); have b2 := mul_b (a := m.t * W + m.x) (b := H) (A := 4 * W - 1) (B := H) (by omega) (by omega); rw [Int.sub_mul, Int.one_mul] at b2; omega
end
def bools (bs : List Bool) : List Value := bs.map .bool
section
variable {w w' : World} {g n k j : Nat} {bs : List Bool} {b : Bool} {lo : Nat}
theorem bools_at {j : Nat} (h : j < bs.length) : (bools bs)[j]? = some (.bool (bs.getD j false)) := by
 unfold bools; rw [List.getElem?_map, List.getElem?_eq_getElem h, List.getD_eq_getElem?_getD, List.getElem?_eq_getElem h]; rfl
def BB (w : World) (g : Nat) (bs : List Bool) : Prop := ∃ rest, Blk w g 4 (bools bs ++ rest)
theorem BB.to (h : BB w g bs) (hb : Below w.heap.size w w') : BB w' g bs := let ⟨r, h⟩ := h; ⟨r, h.to hb⟩
theorem BB.lt (h : BB w g bs) : g < w.heap.size := let ⟨r, h⟩ := h; Blk.lt h
theorem BB.cell (h : BB w g bs) (hj : j < bs.length) : w.cell? ⟨g, j, none⟩ = some (.bool (bs.getD j false)) := by
 obtain ⟨r, h⟩ := h; rw [h.cell j, List.getElem?_append_left (by unfold bools; rw [List.length_map]; exact hj), bools_at hj]
theorem BB.put {g' o : Nat} {vs : List Value} (h : BB w g bs) (hlt : g < g') : BB (putL w g' o vs) g bs := let ⟨r, h⟩ := h; ⟨r, putL_far vs w o h (Nat.ne_of_lt hlt)⟩
theorem BB.set (h : BB w g bs) (hj : j < bs.length) : BB (putL w g j [.bool b]) g (bs.set j b) := by
 obtain ⟨r, h⟩ := h; refine ⟨r, ?_⟩; have := putL_one (o := j) (v := .bool b) h; rwa [List.set_append_left _ _ (by unfold bools; rw [List.length_map]; exact hj), show (bools bs).set j (.bool b) = bools (bs.set j b) from by unfold bools; rw [List.map_set]] at this
end
section
variable {Q : Exit → Act → World → Prop} {o : Oper} {a : Act} {w : World} {d g n k : Nat} {i : Int} {x y : Operand} {bs : List Bool}
theorem op_idxB (h0 : 0 ≤ i) (h1 : i < (n : Int)) (ho : o.op = .indexAddr 78 x y) (hx : a.eval x = .slice (some ⟨g, 0, none⟩) n k) (hy : a.eval y = .int .i64 i) (w : World) : (execOp a.eval o).run Tryz.prog w = .ok (.value (.pointer (some ⟨g, i.toNat, none⟩))) w := by
 generalize a.eval = ev at hx hy ⊢; unfold execOp; simp only [ho, hx, hy]; have ha : ∀ q : Nat, (⟨g, 0, none⟩ : Addr).add q = ⟨g, q, none⟩ := fun q => by unfold Addr.add; split <;> simp_all
 simp [go_sem, h0, h1, ha]
def isBs (lo : Nat) (bs : List Bool) : SP := ⟨fun v w => ∃ g, v = .slice (some ⟨g, 0, none⟩) bs.length bs.length ∧ lo ≤ g ∧ BB w g bs, fun v w w' ⟨g, h1, h2, h3⟩ hb => ⟨g, h1, h2, h3.to hb⟩⟩
end
theorem Tryz.info_bool : (Tryz.prog.info? 4).map (fun i => (i.zero, i.size, i.bytes)) = some (some (.bool false), 1, 1) := by kernel_rfl
set_option maxRecDepth 100000 in
theorem make_bools (n : Nat) (hn : n ≤ 17592186044416) (w : World) :
  (Instr.makeSlice 78 (.int .i64 (n : Int)) (.int .i64 (n : Int))).run Tryz.prog w = .ok (.slice (some ⟨w.heap.size, 0, none⟩) n n) (w.alloc (.cells (bools (List.replicate n false)).toArray 4)) := by
 obtain ⟨i0, hi, hz0, hz1, hz2⟩ := info_parts Tryz.info_bool; have hb : (i0.bytes : Int) * (n : Int) ≤ 281474976710656 := by rw [hz2]; omega
 have hr := run_make (P := Tryz.prog) w 78 4 i0 (.bool false) (by kernel_rfl) hi hz0 .i64 .i64 n n (by omega) (by omega) hb (by omega); simp only [Int.toNat_natCast] at hr; rw [hr]; congr 3
 rw [show bools (List.replicate n false) = List.replicate n (Value.bool false) from by simp [bools], hz1]; apply Array.ext
 ·simp [madeCells]
 intro i h1 h2; simp [madeCells, Value.cells, Nat.mod_one]
section
variable {Q : Exit → Act → World → Prop} {o : Oper} {a : Act} {w : World} {d g n k j : Nat} {x y : Operand} {bs : List Bool} {b : Bool}
theorem op_makeB (hn : n ≤ 17592186044416) (ho : o.op = .makeSlice 78 x y) (hd : o.dst = some d) (hx : a.eval x = .int .i64 (n : Int)) (hy : a.eval y = .int .i64 (n : Int)) (lo : Nat) (hl : lo ≤ w.heap.size) : o.wp Tryz.prog a w (Post a w d (isBs lo (List.replicate n false)).p) Q := by
 have hr : (execOp a.eval o).run Tryz.prog w = .ok (.value (.slice (some ⟨w.heap.size, 0, none⟩) n n)) (w.alloc (.cells (bools (List.replicate n false)).toArray 4)) := by
  unfold execOp; simp only [ho, hx, hy, Sem.run_bind, make_bools n hn, Result.andThen_ok, Sem.run_pure]
 unfold Oper.wp; rw [hr]; show Post a w d _ (a.put o.dst _) _; rw [hd]; have hB : Blk (w.alloc (.cells (bools (List.replicate n false)).toArray 4)) w.heap.size 4 (bools (List.replicate n false)) := heap_alloc_new _ _; exact ⟨_, rfl, below_alloc (Below.refl _ _) _, w.heap.size, by simp, hl, [], by simpa using hB⟩
theorem sto_BB (h : BB w g bs) (hj : j < bs.length) : (Instr.storeAt 4 (.pointer (some ⟨g, j, none⟩)) (.bool b)).run Tryz.prog w = .ok () (putL w g j [.bool b]) := by
 obtain ⟨r, h⟩ := h; exact sto_B h (v := .bool (bs.getD j false)) (by rw [List.getElem?_append_left (by unfold bools; rw [List.length_map]; exact hj), bools_at hj])
end
theorem lex_lt {H a b x y : Int} (hx : 0 ≤ x ∧ x < H) (hy : 0 ≤ y ∧ y < H) : a * H + x < b * H + y ↔ a < b ∨ (a = b ∧ x < y) := by
 rcases Int.lt_trichotomy a b with h | h | h
 ·have := Int.mul_le_mul_of_nonneg_right (show a + 1 ≤ b by omega) (show 0 ≤ H by omega); rw [Int.add_mul, Int.one_mul] at this; omega
 ·subst h; omega
 have := Int.mul_le_mul_of_nonneg_right (show b + 1 ≤ a by omega) (show 0 ≤ H by omega); rw [Int.add_mul, Int.one_mul] at this; omega
theorem cmpI_lt (x y : Int) : (x < y ∧ cmpI x y = -1) ∨ (x = y ∧ cmpI x y = 0) ∨ (y < x ∧ cmpI x y = 1) := by
 unfold cmpI; split
 ·omega
 split <;> omega
theorem ord_lt (a b : Mv) : ordM a b < 0 ↔ (a.f = false ∧ b.f = true) ∨ (a.f = b.f ∧ (a.t < b.t ∨ (a.t = b.t ∧ (a.x < b.x ∨ (a.x = b.x ∧ a.y < b.y))))) := by
 unfold ordM; simp only [orL]; rcases cmpI_lt a.t b.t with ⟨h1, e1⟩ | ⟨h1, e1⟩ | ⟨h1, e1⟩ <;> rcases cmpI_lt a.x b.x with ⟨h2, e2⟩ | ⟨h2, e2⟩ | ⟨h2, e2⟩ <;> rcases cmpI_lt a.y b.y with ⟨h3, e3⟩ | ⟨h3, e3⟩ | ⟨h3, e3⟩ <;> rw [e1, e2, e3] <;> cases a.f <;> cases b.f <;> simp <;> omega
theorem ord_num {W H : Int} {a b : Mv} (h : Al W H a) (k : Al W H b) : ordM a b < 0 ↔ numM W H a < numM W H b := by
 have h1 := num_low h; have k1 := num_low k; have e1 := lex_lt (H := H) (a := a.t * W + a.x) (b := b.t * W + b.x) h.y k.y; have e2 := lex_lt (H := W) (a := a.t) (b := b.t) h.x k.x; have e3 : a.t * W + a.x = b.t * W + b.x ↔ a.t = b.t ∧ a.x = b.x := ⟨fun e => num_digits (W := W) h.x k.x e, fun ⟨e, f⟩ => by rw [e, f]⟩; rw [ord_lt]; unfold numM; cases hf : a.f <;> cases hg : b.f <;> simp <;> omega
theorem rising_eq (f : Mv → Int) : ∀ (l m : List Mv), l.Pairwise (fun a b => f a < f b) → m.Pairwise (fun a b => f a < f b) → (∀ x, x ∈ l ↔ x ∈ m) → l = m
 | [], [], _, _, _ => rfl
 | [], b :: m, _, _, h => by have := (h b).2 (List.mem_cons_self ..); cases this
 | a :: l, [], _, _, h => by have := (h a).1 (List.mem_cons_self ..); cases this
 | a :: l, b :: m, h1, h2, h => by
  rw [List.pairwise_cons] at h1 h2
  have hab : a = b := by
   rcases List.mem_cons.1 ((h a).1 (List.mem_cons_self ..)) with e | e
   ·exact e
   rcases List.mem_cons.1 ((h b).2 (List.mem_cons_self ..)) with e' | e'
   ·exact e'.symm
   have := h1.1 b e'; have := h2.1 a e; omega
  subst hab
  have hm : ∀ x, x ∈ l ↔ x ∈ m := by
   intro x; constructor
   ·intro hx; rcases List.mem_cons.1 ((h x).1 (List.mem_cons_of_mem _ hx)) with e | e
    ·subst e; have := h1.1 x hx; omega
    exact e
   intro hx; rcases List.mem_cons.1 ((h x).2 (List.mem_cons_of_mem _ hx)) with e | e
   ·subst e; have := h2.1 x hx; omega
   exact e
  rw [rising_eq f l m h1.2 h2.2 hm]
def OR (a b : Mv) : Prop := ordM a b < 0
theorem rise4 (W H : Nat) (f : Bool) (t x : Nat) : ∀ n, (mvs4 W H f t x n).Pairwise OR
 | 0 => List.Pairwise.nil
 | n + 1 => by
  simp only [mvs4]; rw [List.pairwise_append]; refine ⟨rise4 W H f t x n, by split <;> simp, fun a ha b hb => ?_⟩; obtain ⟨y, hy, rfl, _⟩ := (mem4 W H f t x a n).1 ha; split at hb
  ·rw [List.mem_singleton.1 hb]; show ordM _ _ < 0; rw [ord_lt]; simp; omega
  cases hb
theorem rise3 (W H : Nat) (f : Bool) (t : Nat) : ∀ n, (mvs3 W H f t n).Pairwise OR
 | 0 => List.Pairwise.nil
 | n + 1 => by
  simp only [mvs3]; rw [List.pairwise_append]; refine ⟨rise3 W H f t n, rise4 W H f t n H, fun a ha b hb => ?_⟩; obtain ⟨x, hx, ha⟩ := (mem3 W H f t a n).1 ha; obtain ⟨y, hy, rfl, _⟩ := (mem4 W H f t x a H).1 ha; obtain ⟨z, hz, rfl, _⟩ := (mem4 W H f t n b H).1 hb; show ordM _ _ < 0; rw [ord_lt]; simp; omega
theorem rise2 (W H : Nat) (f : Bool) : ∀ n, (mvs2 W H f n).Pairwise OR
 | 0 => List.Pairwise.nil
 | n + 1 => by
  simp only [mvs2]; rw [List.pairwise_append]; refine ⟨rise2 W H f n, rise3 W H f n W, fun a ha b hb => ?_⟩; obtain ⟨t, ht, ha⟩ := (mem2 W H f a n).1 ha; obtain ⟨x, hx, ha⟩ := (mem3 W H f t a W).1 ha; obtain ⟨y, hy, rfl, _⟩ := (mem4 W H f t x a H).1 ha; obtain ⟨x', hx', hb⟩ := (mem3 W H f n b W).1 hb; obtain ⟨z, hz, rfl, _⟩ := (mem4 W H f n x' b H).1 hb; show ordM _ _ < 0; rw [ord_lt]; simp; omega
theorem f_of2 {W H : Nat} {f : Bool} {n : Nat} {m : Mv} (h : m ∈ mvs2 W H f n) : m.f = f := by
 obtain ⟨t, ht, h⟩ := (mem2 W H f m n).1 h; obtain ⟨x, hx, h⟩ := (mem3 W H f t m W).1 h; obtain ⟨y, hy, rfl, _⟩ := (mem4 W H f t x m H).1 h; rfl
theorem rise1 (W H : Nat) : (mvs1 W H 2).Pairwise OR := by
 show ((([] ++ mvs2 W H (bo 0) 4)) ++ mvs2 W H (bo 1) 4).Pairwise OR; rw [List.nil_append, List.pairwise_append]; refine ⟨rise2 W H _ 4, rise2 W H _ 4, fun a ha b hb => ?_⟩; show ordM _ _ < 0; rw [ord_lt]; left
 exact ⟨f_of2 ha, f_of2 hb⟩
theorem rise_num {W H : Nat} (hs : sizeB W H = true) : (mvs1 W H 2).Pairwise (fun a b => numM W H a < numM W H b) := by
 have h := rise1 W H; refine h.imp_of_mem ?_; intro a b ha hb hab; exact (ord_num ((mem_moves hs a).1 ha) ((mem_moves hs b).1 hb)).1 hab
theorem mem_nthM {ms : List Mv} {m : Mv} : m ∈ ms ↔ ∃ i, i < ms.length ∧ nthM ms i = m := by
 constructor
 ·intro h; obtain ⟨i, hi, e⟩ := List.mem_iff_getElem.1 h; exact ⟨i, hi, nthM_at (by rw [List.getElem?_eq_getElem hi, e])⟩
 rintro ⟨i, hi, rfl⟩; have := at_nthM hi; exact List.mem_of_getElem? this
theorem gB_iff {W H : Nat} (hs : sizeB W H = true) (ms : List Mv) : gB W H ms = true ↔
  (∀ i, i < ms.length → Al W H (nthM ms i)) ∧ ms.Pairwise (fun a b => numM W H a < numM W H b) ∧ memB ⟨0, 0, 0, false⟩ ms = true ∧ ∀ i j, i < ms.length → j < ms.length → memB (aftM W H (nthM ms i) (nthM ms j)) ms = true := by
 unfold gB closB; simp only [Bool.and_eq_true, List.all_eq_true, List.mem_range]; constructor
 ·rintro ⟨h1, h2, h3⟩
  have hal : ∀ i, i < ms.length → Al W H (nthM ms i) := fun i hi => by
   have := h1 i hi; unfold stepB at this; rw [Bool.and_eq_true] at this; exact al_of (f := (nthM ms i).f) hs this.1
  refine ⟨hal, ?_, h2, fun i j hi hj => h3 i hi j hj⟩
  have hst : ∀ i, 0 < i → i < ms.length → numM W H (nthM ms (i - 1)) < numM W H (nthM ms i) := fun i h0 hi => by
   have := h1 i hi; unfold stepB at this; simp only [Bool.and_eq_true, Bool.or_eq_true, decide_eq_true_eq] at this; exact (ord_num (hal _ (by omega)) (hal _ hi)).1 (this.2.resolve_left (by omega))
  have hup : ∀ d i, i + d + 1 < ms.length → numM W H (nthM ms i) < numM W H (nthM ms (i + d + 1)) := by
   intro d
   induction d with
   | zero => intro i hi; have := hst (i + 1) (by omega) (by omega); simpa using this
   | succ d ih =>
    intro i hi; have a1 := ih i (by omega); have a2 := hst (i + (d + 1) + 1) (by omega) hi; rw [show i + (d + 1) + 1 - 1 = i + d + 1 by omega] at a2; omega
  rw [List.pairwise_iff_getElem]; intro i j hi hj hij; have := hup (j - i - 1) i (by omega); rw [show i + (j - i - 1) + 1 = j by omega] at this; rwa [nthM_at (List.getElem?_eq_getElem hi), nthM_at (List.getElem?_eq_getElem hj)] at this
 rintro ⟨hal, hp, h2, h3⟩; refine ⟨fun i hi => ?_, h2, fun i hi j hj => h3 i j hi hj⟩; unfold stepB; simp only [Bool.and_eq_true, Bool.or_eq_true, decide_eq_true_eq]; refine ⟨(hal i hi).al, ?_⟩; by_cases h0 : i = 0
 ·exact .inl h0
 right
 rw [ord_num (hal _ (by omega)) (hal _ hi)]; have := (List.pairwise_iff_getElem.1 hp) (i - 1) i (by omega) hi (by omega); rwa [nthM_at (List.getElem?_eq_getElem (show i - 1 < ms.length by omega)), nthM_at (List.getElem?_eq_getElem hi)]
theorem gB_list {W H : Nat} (hs : sizeB W H = true) {ms : List Mv} (h : gB W H ms = true) : ms = (mvs1 W H 2).filter fun x => memB x ms := by
 obtain ⟨hal, hp, _, _⟩ := (gB_iff hs ms).1 h; refine rising_eq (numM W H) _ _ hp ((rise_num hs).filter _) (fun x => ?_); rw [List.mem_filter]; constructor
 ·intro hx; obtain ⟨i, hi, e⟩ := mem_nthM.1 hx; exact ⟨(mem_moves hs x).2 (e ▸ hal i hi), memB_iff.2 hx⟩
 rintro ⟨_, hx⟩; exact memB_iff.1 hx
theorem moves_len {W H : Nat} (hW : W ≤ 8) (hH : H ≤ 8) : (mvs1 W H 2).length ≤ 512 := len1 W H hW hH 2
end Go.Proofs.YtddbmckbankmeaaGreat
