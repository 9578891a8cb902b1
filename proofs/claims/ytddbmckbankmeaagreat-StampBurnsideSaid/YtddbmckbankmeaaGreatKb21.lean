/- Part 21 of the texts behind this claim. -/
import Derived.Test.YtddbmckbankmeaaGreatKb20
set_option linter.unusedVariables false
set_option linter.unusedSimpArgs false
namespace Go.Proofs.YtddbmckbankmeaaGreat
open Go.RowKit
def nthM (ms : List Mv) (i : Nat) : Mv := ms.getD i ⟨0, 0, 0, false⟩
theorem nthM_at {ms : List Mv} {i : Nat} {m : Mv} (h : ms[i]? = some m) : nthM ms i = m := by
 unfold nthM; rw [List.getD_eq_getElem?_getD, h]; rfl
theorem at_nthM {ms : List Mv} {i : Nat} (h : i < ms.length) : ms[i]? = some (nthM ms i) := by
 unfold nthM; rw [List.getD_eq_getElem?_getD, List.getElem?_eq_getElem h]; rfl
def stepB (W H : Int) (ms : List Mv) (i : Nat) : Bool := alB W H (nthM ms i).x (nthM ms i).y (nthM ms i).t && (decide (i = 0) || decide (ordM (nthM ms (i - 1)) (nthM ms i) < 0))
def closB (W H : Int) (ms : List Mv) (i : Nat) : Bool := (List.range ms.length).all fun j => memB (aftM W H (nthM ms i) (nthM ms j)) ms
def gB (W H : Int) (ms : List Mv) : Bool := (List.range ms.length).all (stepB W H ms) && (memB ⟨0, 0, 0, false⟩ ms && (List.range ms.length).all (closB W H ms))
theorem gB_step {W H : Int} {ms : List Mv} {i : Nat} (hi : i < ms.length) (h : stepB W H ms i = false) : gB W H ms = false := by
 unfold gB
 have : (List.range ms.length).all (stepB W H ms) = false := by
  rw [Bool.eq_false_iff]; intro hall; rw [List.all_eq_true] at hall; rw [hall i (List.mem_range.2 hi)] at h; cases h
 rw [this]; rfl
theorem gB_zero {W H : Int} {ms : List Mv} (h : memB ⟨0, 0, 0, false⟩ ms = false) : gB W H ms = false := by
 unfold gB; rw [h]; simp
theorem gB_clos {W H : Int} {ms : List Mv} {i j : Nat} (hi : i < ms.length) (hj : j < ms.length) (h : memB (aftM W H (nthM ms i) (nthM ms j)) ms = false) : gB W H ms = false := by
 unfold gB
 have : (List.range ms.length).all (closB W H ms) = false := by
  rw [Bool.eq_false_iff]; intro hall; rw [List.all_eq_true] at hall; have h1 := hall i (List.mem_range.2 hi); unfold closB at h1; rw [List.all_eq_true] at h1; rw [h1 j (List.mem_range.2 hj)] at h; cases h
 rw [this]; simp
theorem gB_yes {W H : Int} {ms : List Mv} (h1 : ∀ i, i < ms.length → stepB W H ms i = true) (h2 : memB ⟨0, 0, 0, false⟩ ms = true) (h3 : ∀ i j, i < ms.length → j < ms.length → memB (aftM W H (nthM ms i) (nthM ms j)) ms = true) : gB W H ms = true := by
 unfold gB closB; simp only [Bool.and_eq_true, List.all_eq_true, List.mem_range]; exact ⟨h1, h2, fun i hi j hj => h3 i j hi hj⟩
theorem Al.okm {W H : Int} {m : Mv} (h : Al W H m) : Okm W H m.x m.y m.t := ⟨h.w, h.h, h.x, h.y, h.t⟩
def isMp (lo : Nat) (ms : List Mv) : SP := ⟨fun v w => ∃ b, v = .map (some b) ∧ lo ≤ b ∧ MapM w b ms, fun v w w' ⟨b, h1, h2, h3⟩ hb => ⟨b, h1, h2, h3.to hb⟩⟩
section
variable {Q : Exit → Act → World → Prop} {o : Oper} {a : Act} {w w' : World} {d b : Nat} {x y z : Operand} {m : Mv} {ms : List Mv} {ops : Array Oper} {rest : List Oper} {L : List Ent}
theorem op_mkM (ho : o.op = .makeMap 92 none) (hd : o.dst = some d) (lo : Nat) (hl : lo ≤ w.heap.size) : o.wp Tryz.prog a w (Post a w d (isMp lo []).p) Q := by
 have key : (execOp a.eval o).run Tryz.prog w = .ok (.value (.map (some w.heap.size))) (w.alloc (.map #[] 0)) := by
  unfold execOp; simp only [ho]; simp [run_makeMap, Result.andThen]
 unfold Oper.wp; rw [key]; show Post a w d _ (a.put o.dst _) _; rw [hd]; exact ⟨_, rfl, below_alloc (Below.refl _ _) _, w.heap.size, rfl, hl, mapM_made w⟩
theorem wpList_mapM (hg : o.guard = none) (ho : o.op = .mapUpdate 92 x y z) (hd : o.dst = none) (hx : a.eval x = .map (some b)) (hy : a.eval y = .agg #[.int .i64 m.x, .int .i64 m.y, .int .i64 m.t, .bool m.f]) (hz : a.eval z = .bool true)
  (h : MapM w b ms) (hw : WfM m) (hn : ms.length < maxLen) (hK : ∀ w', MapM w' b (ms ++ [m]) → w.grownBy w' (some b) → wpList Tryz.prog ops Q rest a w') : wpList Tryz.prog ops Q (o :: rest) a w := by
 refine wpList_plain hg fun K' hK' => ?_
 obtain ⟨w', r1, r2, r3⟩ := h.store hw hn; unfold mvv at r1; unfold Oper.wp; simp [execOp, ho, hx, hy, hz, r1, Result.andThen]; show K' (a.put o.dst undef) w'; rw [hd]; exact hK' _ _ (hK w' r2 r3)
theorem Env.grown : ∀ {L : List Ent}, Env w L → w.grownBy w' (some b) → (∀ e ∈ L, e.g ≠ b) → Env w' L
 | [], _, _, _ => trivial
 | e :: L, ⟨h1, h2, h3⟩, hg, hne => ⟨(hg.block e.g h1.lt (fun e2 => hne e (List.mem_cons_self ..) (Option.some.inj e2))).trans h1, h2, Env.grown h3 hg (fun e' he => hne e' (List.mem_cons_of_mem _ he))⟩
end
set_option maxRecDepth 100000 in
set_option maxHeartbeats 1000000 in
theorem group_got (Wd Ht : Int) (A : Option Addr) (k : Nat) (ms : List Mv) (w : World) (hrm : RdM w A ms) (hln : ms.length ≤ 100000) (hs : sizeB Wd Ht = true) :
  Calls Tryz.prog 23 #[.agg #[.int .i64 Wd, .int .i64 Ht], .slice A ms.length k] w (Got w (isV (.bool (gB Wd Ht ms))).p) := by
 have HRM := Hd.mk hrm; have HS := Hd.mk hs; clear hrm hs; go_enter Tryz.func23, Tryz.ntmps23
 go_upto_region 1 with fail
 obtain ⟨W0, hW0⟩ : ∃ W : World, W = w.alloc (.cells #[.int .i64 Wd, .int .i64 Ht] 63) := ⟨_, rfl⟩; rw [← hW0]; obtain ⟨he, hb⟩ := env_one hW0; have HE := Hd.mk he; have HB := Hd.mk hb; clear he hb hW0; refine wp_region_vd 1 [12] [] [] 63 [.int .i64 0, .int .i64 0] [isMp ((w.heap.size + 1)) ([])] (by rfl) alloc_Z ?_ ?_
 ·intro qi qh qA aa wx hb hs hd
  match qi, qh, qA with
  | 0, _, _ => exact aL (op_mkM rfl rfl _ (Nat.le_trans (by have h := HE.out.lt _ (List.mem_of_getElem? (i := 0) rfl); exact h) hb.size)) | qi + 1, h, _ => omega
 intro vs X1 hb hv hal hne; replace HB := Hd.mk (bel_then HB.out hb); replace HE := Hd.mk (HE.out.to hb); obtain ⟨bm, e12, lbm, hmm⟩ : ∃ b, vs 12 = .map (some b) ∧ (w.heap.size + 1) ≤ b ∧ MapM X1 b ([]) := hv 0 (by decide) rfl; have HM := Hd.mk hmm; have HBM := Hd.mk lbm; clear hmm lbm; simp only [PA, e12]; clear hv hal hne hb e12; go_upto_region 2 with fail
 refine wp_region_vd 3 [13, 14, 15] [0, 2] [] 63 [.int .i64 0, .int .i64 0] [isV (.slice A ms.length k), qI ((ms.length : Nat) : Int), qI 0] (by rfl) alloc_Z ?_ ?_
 ·intro qi qh qA aa wx hb hs hd
  match qi, qh, qA with
  | 0, _, _ => exact aL (op_mv rfl (hs 1 rfl)) | 1, _, _ => exact aL (op_lenvVM rfl rfl (hd 0 rfl)) | 2, _, _ => exact aL (op_mv rfl rfl) | qi + 3, h, _ => omega
 intro vs X2 hb hv hal hne; replace HB := Hd.mk (bel_then HB.out hb); replace HE := Hd.mk (HE.out.to hb); have HML := Hd.mk HM.out.lt; replace HM := Hd.mk (HM.out.to hb); have e13 : vs 13 = .slice A ms.length k := hv 0 (by decide) rfl; have e14 : vs 14 = .int .i64 (((ms.length : Nat) : Int)) := hv 1 (by decide) rfl; have e15 : vs 15 = .int .i64 0 := hv 2 (by decide) rfl; simp only [PA, e13, e14, e15]; clear hv hal hne hb e13 e14 e15 HML; go_wp2_with fail
 go_loopw [15] (fun s15 wr => ∃ j : Nat, j ≤ ms.length ∧ s15 = .int .i64 j ∧ (Env wr [⟨w.heap.size, 63, [.int .i64 Wd, .int .i64 Ht]⟩] ∧ MapM wr bm (ms.take j) ∧ Below w.heap.size w wr) ∧ ∀ i, i < j → stepB Wd Ht ms i = true) (fun s15 _ => ms.length - (intOf s15).toNat)
 case atStart => exact ⟨0, Nat.zero_le _, rfl, ⟨HE.out, HM.out, HB.out⟩, fun i hi => by omega⟩
 case round =>
  obtain ⟨j, hjl, rfl, ⟨he, hmm, hb⟩, hst⟩ := hrel; have HST := Hd.mk hst; clear HB HE HM hst; have HB := Hd.mk hb; have HM := Hd.mk hmm; have HE : Hd (Env wr [⟨w.heap.size, 63, [.int .i64 Wd, .int .i64 Ht]⟩]) := ⟨he⟩; clear he hmm hb; by_cases hj : j < ms.length
  ·obtain ⟨ad, rfl⟩ := HRM.out.some_ (at_nthM hj); go_upto_region 4 with fail
   refine wp_region_vd 4 [17, 18, 19, 7] [0] [3] 65 [.int .i64 0, .int .i64 0, .int .i64 0, .bool false] [qI ((j : Nat) : Int), isV (.pointer (some (ad.add (j * 4)))), isV (.agg #[.int .i64 ((nthM ms j).x), .int .i64 ((nthM ms j).y), .int .i64 ((nthM ms j).t), .bool ((nthM ms j).f)]), SP.any] (by rfl) alloc_M ?_ ?_
   ·intro qi qh qA aa wx hb hs hd
    match qi, qh, qA with
    | 0, _, _ => exact aL (op_mv rfl (hs 15 rfl)) | 1, _, _ => exact aL (op_run rfl (op_idxVM hj rfl (hs 13 rfl) (hs 15 rfl) _) rfl) | 2, _, _ => exact aL (op_ldvVM rfl rfl (hd 1 rfl) ((HRM.out.to (bel_then HB.out hb)).at_ (at_nthM hj))) | 3, _, h => cases h | qi + 4, h, _ => omega
   intro vs X1 hb hv hal hne; have HL0 := Hd.mk (HE.out.lt); have HBW := HB; replace HB := Hd.mk (bel_then HB.out hb); replace HE := Hd.mk (HE.out.to hb); have HML := Hd.mk HM.out.lt; replace HM := Hd.mk (HM.out.to hb); have e17 : vs 17 = .int .i64 (((j : Nat) : Int)) := hv 0 (by decide) rfl; have e19 : vs 19 = .agg #[.int .i64 ((nthM ms j).x), .int .i64 ((nthM ms j).y), .int .i64 ((nthM ms j).t), .bool ((nthM ms j).f)] := hv 2 (by decide) rfl; obtain ⟨g7, e7, l7, b7⟩ : ∃ g, vs 7 = .pointer (some ⟨g, 0, none⟩) ∧ _ := hal 3 rfl; replace HE : Hd (Env X1 [⟨w.heap.size, 63, [.int .i64 Wd, .int .i64 Ht]⟩, ⟨g7, 65, [.int .i64 0, .int .i64 0, .int .i64 0, .bool false]⟩]) := ⟨Env.addne (e := ⟨g7, 65, [.int .i64 0, .int .i64 0, .int .i64 0, .bool false]⟩) HE.out b7 (fun e' he => Nat.ne_of_lt (Nat.lt_of_lt_of_le (HL0.out e' he) l7))⟩; have HMG7 : Hd (bm < g7) := ⟨Nat.lt_of_lt_of_le HML.out l7⟩; have G7 : Hd (w.heap.size ≤ g7) := ⟨Nat.le_trans HBW.out.size l7⟩; simp only [PA, e17, e19, e7]; clear hv hal hne hb HL0 HBW e17 e19 e7 l7 b7 HML; refine wpList_run rfl (op_asgE (v := .int .i64 (((j : Nat) : Int))) rfl rfl _) ?_; simp only [Act.put, List.setIfInBounds_toArray, List.set_cons_succ, List.set_cons_zero]; refine wpList_st rfl rfl rfl rfl rfl (sto_M (HE.out.get 1 rfl)) ?_; have HE' : Env (putL X1 g7 0 [.int .i64 ((nthM ms j).x), .int .i64 ((nthM ms j).y), .int .i64 ((nthM ms j).t), .bool ((nthM ms j).f)]) [⟨w.heap.size, 63, [.int .i64 Wd, .int .i64 Ht]⟩, ⟨g7, 65, [.int .i64 ((nthM ms j).x), .int .i64 ((nthM ms j).y), .int .i64 ((nthM ms j).t), .bool ((nthM ms j).f)]⟩] := HE.out.putF 1 rfl rfl; have HB' := putL_below (show w.heap.size ≤ g7 from G7.out) [.int .i64 ((nthM ms j).x), .int .i64 ((nthM ms j).y), .int .i64 ((nthM ms j).t), .bool ((nthM ms j).f)] _ 0 HB.out; replace HM := Hd.mk (HM.out.put (vs := [.int .i64 ((nthM ms j).x), .int .i64 ((nthM ms j).y), .int .i64 ((nthM ms j).t), .bool ((nthM ms j).f)]) (o := 0) HMG7.out); generalize putL X1 g7 0 [.int .i64 ((nthM ms j).x), .int .i64 ((nthM ms j).y), .int .i64 ((nthM ms j).t), .bool ((nthM ms j).f)] = X2 at *; replace HE := Hd.mk HE'; replace HB := Hd.mk HB'; clear HE' HB'; cases hal : alB Wd Ht (nthM ms j).x (nthM ms j).y (nthM ms j).t
   ·have HF := Hd.mk (gB_step hj (show stepB Wd Ht ms j = false from by unfold stepB; rw [hal]; rfl)); have HAL := Hd.mk hal; clear hal; go_upto_region 5 with fail
    refine wp_region_vg 18 [20, 21, 22, 23, 24, 25, 26, 27, 28, 29, 30, 31, 32, 33, 34, 35, 36, 37] [3, 4, 17] [] 63 [.int .i64 0, .int .i64 0] [isV (.agg #[.int .i64 Wd, .int .i64 Ht]), isV (.agg #[.int .i64 ((nthM ms j).x), .int .i64 ((nthM ms j).y), .int .i64 ((nthM ms j).t), .bool ((nthM ms j).f)]), qF, qT, qT, qU, qU, qU, qU, qU, qU, qU, qU, qU, qU, qU, qU, qT] (by kernel_rfl) (by kernel_rfl) (by kernel_rfl) (by rfl) alloc_Z (fun d v c a w h => by cases d <;> exact h) ?_ ?_
    ·intro qi qh qA aa wx hb hs hd
     match qi, qh, qA with
     | 0, _, _ => exact aL (op_ldZ rfl rfl (hs 2 rfl) ((HE.out.to hb).get 0 rfl)) | 1, _, _ => exact aL (op_ldM rfl rfl (hs 7 rfl) ((HE.out.to hb).get 1 rfl)) | 2, _, _ => exact aL (wp_b (bool_eq HAL.out) (op_call2 rfl rfl Tryz.call52 (by rw [(show aa.eval (.tmp 20) = .agg #[.int .i64 Wd, .int .i64 Ht] from (hd 0 rfl)), (show aa.eval (.tmp 21) = .agg #[.int .i64 ((nthM ms j).x), .int .i64 ((nthM ms j).y), .int .i64 ((nthM ms j).t), .bool ((nthM ms j).f)] from (hd 1 rfl))]; exact allows_got Wd Ht ((nthM ms j).x) ((nthM ms j).y) ((nthM ms j).t) ((nthM ms j).f) _))) | 3, _, _ => exact aL ⟨_, op_not rfl (hd 2 rfl), rfl⟩ | 4, _, _ => exact aL (op_mv rfl (hd 3 rfl)) | 5, _, _ => exact aS (hd 4 rfl) | 6, _, _ => exact aS (hd 4 rfl) | 7, _, _ => exact aS (hd 4 rfl) | 8, _, _ => exact .inr ⟨⟨rfl, .inr ⟨rfl, hd 7 rfl⟩⟩, rfl⟩ | 9, _, _ => exact .inr ⟨⟨rfl, .inr ⟨rfl, hd 7 rfl⟩⟩, rfl⟩ | 10, _, _ => exact .inr ⟨⟨rfl, .inr ⟨rfl, hd 7 rfl⟩⟩, rfl⟩ | 11, _, _ => exact .inr ⟨⟨rfl, .inr ⟨rfl, hd 7 rfl⟩⟩, rfl⟩ | 12, _, _ => exact .inr ⟨⟨rfl, .inr ⟨rfl, hd 7 rfl⟩⟩, rfl⟩ | 13, _, _ => exact .inr ⟨⟨rfl, .inr ⟨rfl, hd 7 rfl⟩⟩, rfl⟩ | 14, _, _ => exact .inr ⟨⟨rfl, .inr ⟨rfl, hd 7 rfl⟩⟩, rfl⟩ | 15, _, _ => exact .inr ⟨⟨rfl, .inr ⟨rfl, hd 7 rfl⟩⟩, rfl⟩ | 16, _, _ => exact aS (hd 4 rfl) | 17, _, _ => exact aL ⟨_, op_pickT rfl (hd 4 rfl) rfl, rfl⟩ | qi + 18, h, _ => omega
    intro vs X3 hb hv hal hne; replace HB := Hd.mk (bel_then HB.out hb); replace HE := Hd.mk (HE.out.to hb); have HML := Hd.mk HM.out.lt; replace HM := Hd.mk (HM.out.to hb); have e37 : vs 37 = .bool true := hv 17 (by decide) rfl; simp only [PA, e37]; clear hv hal hne hb e37 HML; go_upto_region 6 with fail
    refine wp_region_vd 0 [] [] [] 63 [.int .i64 0, .int .i64 0] [] (by rfl) alloc_Z ?_ ?_
    ·intro qi qh qA aa wx hb hs hd
     match qi, qh, qA with
     | qi + 0, h, _ => omega
    intro vs X4 hb hv hal hne; replace HB := Hd.mk (bel_then HB.out hb); replace HE := Hd.mk (HE.out.to hb); have HML := Hd.mk HM.out.lt; replace HM := Hd.mk (HM.out.to hb); simp only [PA]; clear hv hal hne hb HML; go_wp2_with fail
    go_ret
    exact ⟨_, rfl, HB.out, by rw [HF.out]; rfl⟩
   have HAL := Hd.mk hal; clear hal; by_cases hj0 : j = 0
   ·have HSJ := Hd.mk (show stepB Wd Ht ms j = true from by unfold stepB; rw [HAL.out, decide_eq_true hj0]; rfl); go_upto_region 5 with fail
    refine wp_region_vg 18 [20, 21, 22, 23, 24, 25, 26, 27, 28, 29, 30, 31, 32, 33, 34, 35, 36, 37] [3, 4, 5, 6, 7, 16, 17] [] 63 [.int .i64 0, .int .i64 0] [isV (.agg #[.int .i64 Wd, .int .i64 Ht]), isV (.agg #[.int .i64 ((nthM ms j).x), .int .i64 ((nthM ms j).y), .int .i64 ((nthM ms j).t), .bool ((nthM ms j).f)]), qT, qF, qF, qI ((j : Nat) : Int), qF, qF, qU, qU, qU, qU, qU, qU, qU, qU, qF, qF] (by kernel_rfl) (by kernel_rfl) (by kernel_rfl) (by rfl) alloc_Z (fun d v c a w h => by cases d <;> exact h) ?_ ?_
    ·intro qi qh qA aa wx hb hs hd
     match qi, qh, qA with
     | 0, _, _ => exact aL (op_ldZ rfl rfl (hs 2 rfl) ((HE.out.to hb).get 0 rfl)) | 1, _, _ => exact aL (op_ldM rfl rfl (hs 7 rfl) ((HE.out.to hb).get 1 rfl)) | 2, _, _ => exact aL (wp_b (bool_eq HAL.out) (op_call2 rfl rfl Tryz.call52 (by rw [(show aa.eval (.tmp 20) = .agg #[.int .i64 Wd, .int .i64 Ht] from (hd 0 rfl)), (show aa.eval (.tmp 21) = .agg #[.int .i64 ((nthM ms j).x), .int .i64 ((nthM ms j).y), .int .i64 ((nthM ms j).t), .bool ((nthM ms j).f)] from (hd 1 rfl))]; exact allows_got Wd Ht ((nthM ms j).x) ((nthM ms j).y) ((nthM ms j).t) ((nthM ms j).f) _))) | 3, _, _ => exact aL ⟨_, op_not rfl (hd 2 rfl), rfl⟩ | 4, _, _ => exact aL (op_mv rfl (hd 3 rfl)) | 5, _, _ => exact aG (hd 4 rfl) (op_mv rfl (hs 6 rfl)) | 6, _, _ => exact aG (hd 4 rfl) (pure_b (bool_eq (decide_eq_false (by omega))) (⟨_, op_gtrI rfl (hd 5 rfl) rfl, rfl⟩)) | 7, _, _ => exact aG (hd 4 rfl) (op_mv rfl (hd 6 rfl)) | 8, _, _ => exact aS (hd 7 rfl) | 9, _, _ => exact aS (hd 7 rfl) | 10, _, _ => exact aS (hd 7 rfl) | 11, _, _ => exact aS (hd 7 rfl) | 12, _, _ => exact aS (hd 7 rfl) | 13, _, _ => exact aS (hd 7 rfl) | 14, _, _ => exact aS (hd 7 rfl) | 15, _, _ => exact aS (hd 7 rfl) | 16, _, _ => exact aG (hd 4 rfl) ⟨_, op_pickF rfl (hd 7 rfl) rfl, rfl⟩ | 17, _, _ => exact aL ⟨_, op_pickF rfl (hd 4 rfl) (hd 16 rfl), rfl⟩ | qi + 18, h, _ => omega
    intro vs X3 hb hv hal hne; replace HB := Hd.mk (bel_then HB.out hb); replace HE := Hd.mk (HE.out.to hb); have HML := Hd.mk HM.out.lt; replace HM := Hd.mk (HM.out.to hb); have e37 : vs 37 = .bool false := hv 17 (by decide) rfl; simp only [PA, e37]; clear hv hal hne hb e37 HML; go_upto_region 7 with fail
    refine wp_region_vd 2 [38, 39] [0] [] 63 [.int .i64 0, .int .i64 0] [isV (.map (some bm)), isV (.agg #[.int .i64 ((nthM ms j).x), .int .i64 ((nthM ms j).y), .int .i64 ((nthM ms j).t), .bool ((nthM ms j).f)])] (by rfl) alloc_Z ?_ ?_
    ·intro qi qh qA aa wx hb hs hd
     match qi, qh, qA with
     | 0, _, _ => exact aL (op_mv rfl (hs 5 rfl)) | 1, _, _ => exact aL (op_ldM rfl rfl (hs 7 rfl) ((HE.out.to hb).get 1 rfl)) | qi + 2, h, _ => omega
    intro vs X4 hb hv hal hne; replace HB := Hd.mk (bel_then HB.out hb); replace HE := Hd.mk (HE.out.to hb); have HML := Hd.mk HM.out.lt; replace HM := Hd.mk (HM.out.to hb); have e38 : vs 38 = .map (some bm) := hv 0 (by decide) rfl; have e39 : vs 39 = .agg #[.int .i64 ((nthM ms j).x), .int .i64 ((nthM ms j).y), .int .i64 ((nthM ms j).t), .bool ((nthM ms j).f)] := hv 1 (by decide) rfl; simp only [PA, e38, e39]; clear hv hal hne hb e38 e39 HML; refine wpList_mapM (m := nthM ms j) rfl rfl rfl rfl rfl rfl HM.out (al_of (f := (nthM ms j).f) HS.out HAL.out).wf (by rw [List.length_take]; unfold maxLen; omega) ?_; intro wm hm1 hg1; have HE1 := Env.grown (Env.front (L := [⟨w.heap.size, 63, [.int .i64 Wd, .int .i64 Ht]⟩]) HE.out) hg1 (fun e he => by rw [List.mem_singleton.1 he]; exact Nat.ne_of_lt HBM.out); have HB1 := HB.out.grown hg1 HB.out.size (fun z hz => by cases hz; exact Nat.le_of_lt HBM.out); have HM1 : MapM wm bm (ms.take (j + 1)) := by rw [List.take_add_one, at_nthM hj]; exact hm1
    replace HE := Hd.mk HE1; replace HB := Hd.mk HB1; replace HM := Hd.mk HM1; clear HE1 HB1 HM1 hm1 hg1; go_wp2_with fail
    go_roundw
    case rel => exact ⟨j + 1, by omega, by go_num, ⟨HE.out, HM.out, HB.out⟩, fun i hi => by
     by_cases e : i = j
     ·rw [e]; exact HSJ.out
     exact HST.out i (by omega)⟩
    case measure => simp [intOf]; omega
   have hjm : j - 1 < ms.length := by omega
   by_cases hor : 0 ≤ ordM (nthM ms (j - 1)) (nthM ms j)
   ·have HF := Hd.mk (gB_step hj (show stepB Wd Ht ms j = false from by unfold stepB; rw [HAL.out, decide_eq_false hj0, decide_eq_false (by omega)]; rfl)); go_upto_region 5 with fail
    refine wp_region_vg 18 [20, 21, 22, 23, 24, 25, 26, 27, 28, 29, 30, 31, 32, 33, 34, 35, 36, 37] [3, 4, 5, 6, 7, 8, 9, 10, 15, 16, 17] [] 63 [.int .i64 0, .int .i64 0] [isV (.agg #[.int .i64 Wd, .int .i64 Ht]), isV (.agg #[.int .i64 ((nthM ms j).x), .int .i64 ((nthM ms j).y), .int .i64 ((nthM ms j).t), .bool ((nthM ms j).f)]), qT, qF, qF, qI ((j : Nat) : Int), qT, qT, isV (.slice (some ad) ms.length k), qI ((j : Nat) : Int), qI ((j - 1 : Nat) : Int), isV (.pointer (some (ad.add ((j - 1) * 4)))), isV (.agg #[.int .i64 ((nthM ms (j - 1)).x), .int .i64 ((nthM ms (j - 1)).y), .int .i64 ((nthM ms (j - 1)).t), .bool ((nthM ms (j - 1)).f)]), isV (.agg #[.int .i64 ((nthM ms j).x), .int .i64 ((nthM ms j).y), .int .i64 ((nthM ms j).t), .bool ((nthM ms j).f)]), qI (ordM (nthM ms (j - 1)) (nthM ms j)), qT, qT, qT] (by kernel_rfl) (by kernel_rfl) (by kernel_rfl) (by rfl) alloc_Z (fun d v c a w h => by cases d <;> exact h) ?_ ?_
    ·intro qi qh qA aa wx hb hs hd
     match qi, qh, qA with
     | 0, _, _ => exact aL (op_ldZ rfl rfl (hs 2 rfl) ((HE.out.to hb).get 0 rfl)) | 1, _, _ => exact aL (op_ldM rfl rfl (hs 7 rfl) ((HE.out.to hb).get 1 rfl)) | 2, _, _ => exact aL (wp_b (bool_eq HAL.out) (op_call2 rfl rfl Tryz.call52 (by rw [(show aa.eval (.tmp 20) = .agg #[.int .i64 Wd, .int .i64 Ht] from (hd 0 rfl)), (show aa.eval (.tmp 21) = .agg #[.int .i64 ((nthM ms j).x), .int .i64 ((nthM ms j).y), .int .i64 ((nthM ms j).t), .bool ((nthM ms j).f)] from (hd 1 rfl))]; exact allows_got Wd Ht ((nthM ms j).x) ((nthM ms j).y) ((nthM ms j).t) ((nthM ms j).f) _))) | 3, _, _ => exact aL ⟨_, op_not rfl (hd 2 rfl), rfl⟩ | 4, _, _ => exact aL (op_mv rfl (hd 3 rfl)) | 5, _, _ => exact aG (hd 4 rfl) (op_mv rfl (hs 6 rfl)) | 6, _, _ => exact aG (hd 4 rfl) (pure_b (bool_eq (decide_eq_true (by omega))) (⟨_, op_gtrI rfl (hd 5 rfl) rfl, rfl⟩)) | 7, _, _ => exact aG (hd 4 rfl) (op_mv rfl (hd 6 rfl)) | 8, _, _ => exact aG (hd 7 rfl) (op_mv rfl (hs 1 rfl)) | 9, _, _ => exact aG (hd 7 rfl) (op_mv rfl (hs 6 rfl)) | 10, _, _ => exact aG (hd 7 rfl) (pure_b (int_eq (by omega)) (⟨_, op_sub (by unfold Fit; omega) rfl (hd 9 rfl) rfl, rfl⟩)) | 11, _, _ => exact aG (hd 7 rfl) (op_run rfl (op_idxVM hjm rfl (hd 8 rfl) (hd 10 rfl) _) rfl) | 12, _, _ => exact aG (hd 7 rfl) (op_ldvVM rfl rfl (hd 11 rfl) ((HRM.out.to (bel_then HB.out hb)).at_ (at_nthM hjm))) | 13, _, _ => exact aG (hd 7 rfl) (op_ldM rfl rfl (hs 7 rfl) ((HE.out.to hb).get 1 rfl)) | 14, _, _ => exact aG (hd 7 rfl) (op_call2 rfl rfl Tryz.call55 (by rw [(show aa.eval (.tmp 32) = .agg #[.int .i64 ((nthM ms (j - 1)).x), .int .i64 ((nthM ms (j - 1)).y), .int .i64 ((nthM ms (j - 1)).t), .bool ((nthM ms (j - 1)).f)] from (hd 12 rfl)), (show aa.eval (.tmp 33) = .agg #[.int .i64 ((nthM ms j).x), .int .i64 ((nthM ms j).y), .int .i64 ((nthM ms j).t), .bool ((nthM ms j).f)] from (hd 13 rfl))]; exact byOrder_got (nthM ms (j - 1)) (nthM ms j) _)) | 15, _, _ => exact aG (hd 7 rfl) (pure_b (bool_eq (decide_eq_true hor)) (⟨_, op_geqI rfl (hd 14 rfl) rfl, rfl⟩)) | 16, _, _ => exact aG (hd 4 rfl) ⟨_, op_pickT rfl (hd 7 rfl) (hd 15 rfl), rfl⟩ | 17, _, _ => exact aL ⟨_, op_pickF rfl (hd 4 rfl) (hd 16 rfl), rfl⟩ | qi + 18, h, _ => omega
    intro vs X3 hb hv hal hne; replace HB := Hd.mk (bel_then HB.out hb); replace HE := Hd.mk (HE.out.to hb); have HML := Hd.mk HM.out.lt; replace HM := Hd.mk (HM.out.to hb); have e37 : vs 37 = .bool true := hv 17 (by decide) rfl; simp only [PA, e37]; clear hv hal hne hb e37 HML; go_upto_region 6 with fail
    refine wp_region_vd 0 [] [] [] 63 [.int .i64 0, .int .i64 0] [] (by rfl) alloc_Z ?_ ?_
    ·intro qi qh qA aa wx hb hs hd
     match qi, qh, qA with
     | qi + 0, h, _ => omega
    intro vs X4 hb hv hal hne; replace HB := Hd.mk (bel_then HB.out hb); replace HE := Hd.mk (HE.out.to hb); have HML := Hd.mk HM.out.lt; replace HM := Hd.mk (HM.out.to hb); simp only [PA]; clear hv hal hne hb HML; go_wp2_with fail
    go_ret
    exact ⟨_, rfl, HB.out, by rw [HF.out]; rfl⟩
   have HSJ := Hd.mk (show stepB Wd Ht ms j = true from by unfold stepB; rw [HAL.out, decide_eq_false hj0, decide_eq_true (show ordM (nthM ms (j - 1)) (nthM ms j) < 0 by omega)]; rfl); go_upto_region 5 with fail
   refine wp_region_vg 18 [20, 21, 22, 23, 24, 25, 26, 27, 28, 29, 30, 31, 32, 33, 34, 35, 36, 37] [3, 4, 5, 6, 7, 8, 9, 10, 15, 16, 17] [] 63 [.int .i64 0, .int .i64 0] [isV (.agg #[.int .i64 Wd, .int .i64 Ht]), isV (.agg #[.int .i64 ((nthM ms j).x), .int .i64 ((nthM ms j).y), .int .i64 ((nthM ms j).t), .bool ((nthM ms j).f)]), qT, qF, qF, qI ((j : Nat) : Int), qT, qT, isV (.slice (some ad) ms.length k), qI ((j : Nat) : Int), qI ((j - 1 : Nat) : Int), isV (.pointer (some (ad.add ((j - 1) * 4)))), isV (.agg #[.int .i64 ((nthM ms (j - 1)).x), .int .i64 ((nthM ms (j - 1)).y), .int .i64 ((nthM ms (j - 1)).t), .bool ((nthM ms (j - 1)).f)]), isV (.agg #[.int .i64 ((nthM ms j).x), .int .i64 ((nthM ms j).y), .int .i64 ((nthM ms j).t), .bool ((nthM ms j).f)]), qI (ordM (nthM ms (j - 1)) (nthM ms j)), qF, qF, qF] (by kernel_rfl) (by kernel_rfl) (by kernel_rfl) (by rfl) alloc_Z (fun d v c a w h => by cases d <;> exact h) ?_ ?_
   ·intro qi qh qA aa wx hb hs hd
    match qi, qh, qA with
    | 0, _, _ => exact aL (op_ldZ rfl rfl (hs 2 rfl) ((HE.out.to hb).get 0 rfl)) | 1, _, _ => exact aL (op_ldM rfl rfl (hs 7 rfl) ((HE.out.to hb).get 1 rfl)) | 2, _, _ => exact aL (wp_b (bool_eq HAL.out) (op_call2 rfl rfl Tryz.call52 (by rw [(show aa.eval (.tmp 20) = .agg #[.int .i64 Wd, .int .i64 Ht] from (hd 0 rfl)), (show aa.eval (.tmp 21) = .agg #[.int .i64 ((nthM ms j).x), .int .i64 ((nthM ms j).y), .int .i64 ((nthM ms j).t), .bool ((nthM ms j).f)] from (hd 1 rfl))]; exact allows_got Wd Ht ((nthM ms j).x) ((nthM ms j).y) ((nthM ms j).t) ((nthM ms j).f) _))) | 3, _, _ => exact aL ⟨_, op_not rfl (hd 2 rfl), rfl⟩ | 4, _, _ => exact aL (op_mv rfl (hd 3 rfl)) | 5, _, _ => exact aG (hd 4 rfl) (op_mv rfl (hs 6 rfl)) | 6, _, _ => exact aG (hd 4 rfl) (pure_b (bool_eq (decide_eq_true (by omega))) (⟨_, op_gtrI rfl (hd 5 rfl) rfl, rfl⟩)) | 7, _, _ => exact aG (hd 4 rfl) (op_mv rfl (hd 6 rfl)) | 8, _, _ => exact aG (hd 7 rfl) (op_mv rfl (hs 1 rfl)) | 9, _, _ => exact aG (hd 7 rfl) (op_mv rfl (hs 6 rfl)) | 10, _, _ => exact aG (hd 7 rfl) (pure_b (int_eq (by omega)) (⟨_, op_sub (by unfold Fit; omega) rfl (hd 9 rfl) rfl, rfl⟩)) | 11, _, _ => exact aG (hd 7 rfl) (op_run rfl (op_idxVM hjm rfl (hd 8 rfl) (hd 10 rfl) _) rfl) | 12, _, _ => exact aG (hd 7 rfl) (op_ldvVM rfl rfl (hd 11 rfl) ((HRM.out.to (bel_then HB.out hb)).at_ (at_nthM hjm))) | 13, _, _ => exact aG (hd 7 rfl) (op_ldM rfl rfl (hs 7 rfl) ((HE.out.to hb).get 1 rfl)) | 14, _, _ => exact aG (hd 7 rfl) (op_call2 rfl rfl Tryz.call55 (by rw [(show aa.eval (.tmp 32) = .agg #[.int .i64 ((nthM ms (j - 1)).x), .int .i64 ((nthM ms (j - 1)).y), .int .i64 ((nthM ms (j - 1)).t), .bool ((nthM ms (j - 1)).f)] from (hd 12 rfl)), (show aa.eval (.tmp 33) = .agg #[.int .i64 ((nthM ms j).x), .int .i64 ((nthM ms j).y), .int .i64 ((nthM ms j).t), .bool ((nthM ms j).f)] from (hd 13 rfl))]; exact byOrder_got (nthM ms (j - 1)) (nthM ms j) _)) | 15, _, _ => exact aG (hd 7 rfl) (pure_b (bool_eq (decide_eq_false hor)) (⟨_, op_geqI rfl (hd 14 rfl) rfl, rfl⟩)) | 16, _, _ => exact aG (hd 4 rfl) ⟨_, op_pickT rfl (hd 7 rfl) (hd 15 rfl), rfl⟩ | 17, _, _ => exact aL ⟨_, op_pickF rfl (hd 4 rfl) (hd 16 rfl), rfl⟩ | qi + 18, h, _ => omega
   intro vs X3 hb hv hal hne; replace HB := Hd.mk (bel_then HB.out hb); replace HE := Hd.mk (HE.out.to hb); have HML := Hd.mk HM.out.lt; replace HM := Hd.mk (HM.out.to hb); have e37 : vs 37 = .bool false := hv 17 (by decide) rfl; simp only [PA, e37]; clear hv hal hne hb e37 HML; go_upto_region 7 with fail
   refine wp_region_vd 2 [38, 39] [0] [] 63 [.int .i64 0, .int .i64 0] [isV (.map (some bm)), isV (.agg #[.int .i64 ((nthM ms j).x), .int .i64 ((nthM ms j).y), .int .i64 ((nthM ms j).t), .bool ((nthM ms j).f)])] (by rfl) alloc_Z ?_ ?_
   ·intro qi qh qA aa wx hb hs hd
    match qi, qh, qA with
    | 0, _, _ => exact aL (op_mv rfl (hs 5 rfl)) | 1, _, _ => exact aL (op_ldM rfl rfl (hs 7 rfl) ((HE.out.to hb).get 1 rfl)) | qi + 2, h, _ => omega
   intro vs X4 hb hv hal hne; replace HB := Hd.mk (bel_then HB.out hb); replace HE := Hd.mk (HE.out.to hb); have HML := Hd.mk HM.out.lt; replace HM := Hd.mk (HM.out.to hb); have e38 : vs 38 = .map (some bm) := hv 0 (by decide) rfl; have e39 : vs 39 = .agg #[.int .i64 ((nthM ms j).x), .int .i64 ((nthM ms j).y), .int .i64 ((nthM ms j).t), .bool ((nthM ms j).f)] := hv 1 (by decide) rfl; simp only [PA, e38, e39]; clear hv hal hne hb e38 e39 HML; refine wpList_mapM (m := nthM ms j) rfl rfl rfl rfl rfl rfl HM.out (al_of (f := (nthM ms j).f) HS.out HAL.out).wf (by rw [List.length_take]; unfold maxLen; omega) ?_; intro wm hm1 hg1; have HE1 := Env.grown (Env.front (L := [⟨w.heap.size, 63, [.int .i64 Wd, .int .i64 Ht]⟩]) HE.out) hg1 (fun e he => by rw [List.mem_singleton.1 he]; exact Nat.ne_of_lt HBM.out); have HB1 := HB.out.grown hg1 HB.out.size (fun z hz => by cases hz; exact Nat.le_of_lt HBM.out); have HM1 : MapM wm bm (ms.take (j + 1)) := by rw [List.take_add_one, at_nthM hj]; exact hm1
   replace HE := Hd.mk HE1; replace HB := Hd.mk HB1; replace HM := Hd.mk HM1; clear HE1 HB1 HM1 hm1 hg1; go_wp2_with fail
   go_roundw
   case rel => exact ⟨j + 1, by omega, by go_num, ⟨HE.out, HM.out, HB.out⟩, fun i hi => by
    by_cases e : i = j
    ·rw [e]; exact HSJ.out
    exact HST.out i (by omega)⟩
   case measure => simp [intOf]; omega
  have e1 : j = ms.length := by omega
  have HM1 : MapM wr bm ms := by have h := HM.out; rw [e1, List.take_length] at h; exact h
  replace HM := Hd.mk HM1; have HST1 : Hd (∀ i, i < ms.length → stepB Wd Ht ms i = true) := ⟨fun i hi => HST.out i (by omega)⟩
  have HALL : Hd (∀ i, i < ms.length → Al Wd Ht (nthM ms i)) := ⟨fun i hi => by
   have h := HST1.out i hi; unfold stepB at h; rw [Bool.and_eq_true] at h
   exact al_of (f := (nthM ms i).f) HS.out h.1⟩
  clear HM1 HST; cases hz0 : memB ⟨0, 0, 0, false⟩ ms
  ·have HZ := Hd.mk hz0; clear hz0; go_upto_region 9 with fail
   refine wp_region_vd 4 [41, 42, 43, 44] [0, 1, 3] [] 63 [.int .i64 0, .int .i64 0] [isV (.map (some bm)), isV (.agg #[.int .i64 0, .int .i64 0, .int .i64 0, .bool false]), qF, qT] (by rfl) alloc_Z ?_ ?_
   ·intro qi qh qA aa wx hb hs hd
    match qi, qh, qA with
    | 0, _, _ => exact aL (op_mv rfl (hs 5 rfl)) | 1, _, _ => exact aL ⟨_, op_b0M rfl, rfl⟩ | 2, _, _ => exact aL (wp_b (bool_eq HZ.out) (op_lookM (m := ⟨0, 0, 0, false⟩) rfl rfl (hd 0 rfl) (hd 1 rfl) (HM.out.to hb) wf_zero)) | 3, _, _ => exact aL ⟨_, op_not rfl (hd 2 rfl), rfl⟩ | qi + 4, h, _ => omega
   intro vs X1 hb hv hal hne; replace HB := Hd.mk (bel_then HB.out hb); replace HE := Hd.mk (HE.out.to hb); have HML := Hd.mk HM.out.lt; replace HM := Hd.mk (HM.out.to hb); have e44 : vs 44 = .bool true := hv 3 (by decide) rfl; simp only [PA, e44]; clear hv hal hne hb e44 HML; go_upto_region 10 with fail
   refine wp_region_vd 0 [] [] [] 63 [.int .i64 0, .int .i64 0] [] (by rfl) alloc_Z ?_ ?_
   ·intro qi qh qA aa wx hb hs hd
    match qi, qh, qA with
    | qi + 0, h, _ => omega
   intro vs X2 hb hv hal hne; replace HB := Hd.mk (bel_then HB.out hb); replace HE := Hd.mk (HE.out.to hb); have HML := Hd.mk HM.out.lt; replace HM := Hd.mk (HM.out.to hb); simp only [PA]; clear hv hal hne hb HML; go_wp2_with fail
   go_ret
   exact ⟨_, rfl, HB.out, by rw [(gB_zero HZ.out)]; rfl⟩
  have HZ := Hd.mk hz0; clear hz0; go_upto_region 9 with fail
  refine wp_region_vd 4 [41, 42, 43, 44] [0, 1, 3] [] 63 [.int .i64 0, .int .i64 0] [isV (.map (some bm)), isV (.agg #[.int .i64 0, .int .i64 0, .int .i64 0, .bool false]), qT, qF] (by rfl) alloc_Z ?_ ?_
  ·intro qi qh qA aa wx hb hs hd
   match qi, qh, qA with
   | 0, _, _ => exact aL (op_mv rfl (hs 5 rfl)) | 1, _, _ => exact aL ⟨_, op_b0M rfl, rfl⟩ | 2, _, _ => exact aL (wp_b (bool_eq HZ.out) (op_lookM (m := ⟨0, 0, 0, false⟩) rfl rfl (hd 0 rfl) (hd 1 rfl) (HM.out.to hb) wf_zero)) | 3, _, _ => exact aL ⟨_, op_not rfl (hd 2 rfl), rfl⟩ | qi + 4, h, _ => omega
  intro vs X1 hb hv hal hne; replace HB := Hd.mk (bel_then HB.out hb); replace HE := Hd.mk (HE.out.to hb); have HML := Hd.mk HM.out.lt; replace HM := Hd.mk (HM.out.to hb); have e44 : vs 44 = .bool false := hv 3 (by decide) rfl; simp only [PA, e44]; clear hv hal hne hb e44 HML; go_upto_region 11 with fail
  refine wp_region_vd 3 [45, 46, 47] [0, 2] [] 63 [.int .i64 0, .int .i64 0] [isV (.slice A ms.length k), qI ((ms.length : Nat) : Int), qI 0] (by rfl) alloc_Z ?_ ?_
  ·intro qi qh qA aa wx hb hs hd
   match qi, qh, qA with
   | 0, _, _ => exact aL (op_mv rfl (hs 1 rfl)) | 1, _, _ => exact aL (op_lenvVM rfl rfl (hd 0 rfl)) | 2, _, _ => exact aL (op_mv rfl rfl) | qi + 3, h, _ => omega
  intro vs X2 hb hv hal hne; replace HB := Hd.mk (bel_then HB.out hb); replace HE := Hd.mk (HE.out.to hb); have HML := Hd.mk HM.out.lt; replace HM := Hd.mk (HM.out.to hb); have e45 : vs 45 = .slice A ms.length k := hv 0 (by decide) rfl; have e46 : vs 46 = .int .i64 (((ms.length : Nat) : Int)) := hv 1 (by decide) rfl; have e47 : vs 47 = .int .i64 0 := hv 2 (by decide) rfl; simp only [PA, e45, e46, e47]; clear hv hal hne hb e45 e46 e47 HML; go_wp2_with fail
  go_loopw [47] (fun s47 wr => ∃ i : Nat, i ≤ ms.length ∧ s47 = .int .i64 i ∧ (Env wr [⟨w.heap.size, 63, [.int .i64 Wd, .int .i64 Ht]⟩] ∧ MapM wr bm ms ∧ Below w.heap.size w wr) ∧ ∀ a b, a < i → b < ms.length → memB (aftM Wd Ht (nthM ms a) (nthM ms b)) ms = true) (fun s47 _ => ms.length - (intOf s47).toNat)
  case atStart => exact ⟨0, Nat.zero_le _, rfl, ⟨HE.out, HM.out, HB.out⟩, fun a b ha => by omega⟩
  case round =>
   obtain ⟨i, hil, rfl, ⟨he, hmm, hb⟩, hcl⟩ := hrel; have HCL := Hd.mk hcl; clear HB HE HM hcl; have HB := Hd.mk hb; have HM := Hd.mk hmm; have HE : Hd (Env wr [⟨w.heap.size, 63, [.int .i64 Wd, .int .i64 Ht]⟩]) := ⟨he⟩; clear he hmm hb; by_cases hi : i < ms.length
   ·obtain ⟨ad, rfl⟩ := HRM.out.some_ (at_nthM hi); go_upto_region 13 with fail
    refine wp_region_vd 3 [49, 50, 9] [] [2] 65 [.int .i64 0, .int .i64 0, .int .i64 0, .bool false] [isV (.pointer (some (ad.add (i * 4)))), isV (.agg #[.int .i64 ((nthM ms i).x), .int .i64 ((nthM ms i).y), .int .i64 ((nthM ms i).t), .bool ((nthM ms i).f)]), SP.any] (by rfl) alloc_M ?_ ?_
    ·intro qi qh qA aa wx hb hs hd
     match qi, qh, qA with
     | 0, _, _ => exact aL (op_run rfl (op_idxVM hi rfl (hs 45 rfl) (hs 47 rfl) _) rfl) | 1, _, _ => exact aL (op_ldvVM rfl rfl (hd 0 rfl) ((HRM.out.to (bel_then HB.out hb)).at_ (at_nthM hi))) | 2, _, h => cases h | qi + 3, h, _ => omega
    intro vs X1 hb hv hal hne; have HL0 := Hd.mk (HE.out.lt); have HBW := HB; replace HB := Hd.mk (bel_then HB.out hb); replace HE := Hd.mk (HE.out.to hb); have HML := Hd.mk HM.out.lt; replace HM := Hd.mk (HM.out.to hb); have e50 : vs 50 = .agg #[.int .i64 ((nthM ms i).x), .int .i64 ((nthM ms i).y), .int .i64 ((nthM ms i).t), .bool ((nthM ms i).f)] := hv 1 (by decide) rfl; obtain ⟨g9, e9, l9, b9⟩ : ∃ g, vs 9 = .pointer (some ⟨g, 0, none⟩) ∧ _ := hal 2 rfl; replace HE : Hd (Env X1 [⟨w.heap.size, 63, [.int .i64 Wd, .int .i64 Ht]⟩, ⟨g9, 65, [.int .i64 0, .int .i64 0, .int .i64 0, .bool false]⟩]) := ⟨Env.addne (e := ⟨g9, 65, [.int .i64 0, .int .i64 0, .int .i64 0, .bool false]⟩) HE.out b9 (fun e' he => Nat.ne_of_lt (Nat.lt_of_lt_of_le (HL0.out e' he) l9))⟩; have HMG9 : Hd (bm < g9) := ⟨Nat.lt_of_lt_of_le HML.out l9⟩; have G9 : Hd (w.heap.size ≤ g9) := ⟨Nat.le_trans HBW.out.size l9⟩; simp only [PA, e50, e9]; clear hv hal hne hb HL0 HBW e50 e9 l9 b9 HML; refine wpList_st rfl rfl rfl rfl rfl (sto_M (HE.out.get 1 rfl)) ?_; have HE' : Env (putL X1 g9 0 [.int .i64 ((nthM ms i).x), .int .i64 ((nthM ms i).y), .int .i64 ((nthM ms i).t), .bool ((nthM ms i).f)]) [⟨w.heap.size, 63, [.int .i64 Wd, .int .i64 Ht]⟩, ⟨g9, 65, [.int .i64 ((nthM ms i).x), .int .i64 ((nthM ms i).y), .int .i64 ((nthM ms i).t), .bool ((nthM ms i).f)]⟩] := HE.out.putF 1 rfl rfl; have HB' := putL_below (show w.heap.size ≤ g9 from G9.out) [.int .i64 ((nthM ms i).x), .int .i64 ((nthM ms i).y), .int .i64 ((nthM ms i).t), .bool ((nthM ms i).f)] _ 0 HB.out; replace HM := Hd.mk (HM.out.put (vs := [.int .i64 ((nthM ms i).x), .int .i64 ((nthM ms i).y), .int .i64 ((nthM ms i).t), .bool ((nthM ms i).f)]) (o := 0) HMG9.out); generalize putL X1 g9 0 [.int .i64 ((nthM ms i).x), .int .i64 ((nthM ms i).y), .int .i64 ((nthM ms i).t), .bool ((nthM ms i).f)] = X2 at *; replace HE := Hd.mk HE'; replace HB := Hd.mk HB'; clear HE' HB'; go_upto_region 14 with fail
    refine wp_region_vd 3 [51, 52, 53] [0, 2] [] 63 [.int .i64 0, .int .i64 0] [isV (.slice (some ad) ms.length k), qI ((ms.length : Nat) : Int), qI 0] (by rfl) alloc_Z ?_ ?_
    ·intro qi qh qA aa wx hb hs hd
     match qi, qh, qA with
     | 0, _, _ => exact aL (op_mv rfl (hs 1 rfl)) | 1, _, _ => exact aL (op_lenvVM rfl rfl (hd 0 rfl)) | 2, _, _ => exact aL (op_mv rfl rfl) | qi + 3, h, _ => omega
    intro vs X3 hb hv hal hne; replace HB := Hd.mk (bel_then HB.out hb); replace HE := Hd.mk (HE.out.to hb); have HML := Hd.mk HM.out.lt; replace HM := Hd.mk (HM.out.to hb); have e51 : vs 51 = .slice (some ad) ms.length k := hv 0 (by decide) rfl; have e52 : vs 52 = .int .i64 (((ms.length : Nat) : Int)) := hv 1 (by decide) rfl; have e53 : vs 53 = .int .i64 0 := hv 2 (by decide) rfl; simp only [PA, e51, e52, e53]; clear hv hal hne hb e51 e52 e53 HML; go_wp2_with fail
    go_loopw [53] (fun s53 wr => ∃ j : Nat, j ≤ ms.length ∧ s53 = .int .i64 j ∧ (Env wr [⟨w.heap.size, 63, [.int .i64 Wd, .int .i64 Ht]⟩, ⟨g9, 65, [.int .i64 ((nthM ms i).x), .int .i64 ((nthM ms i).y), .int .i64 ((nthM ms i).t), .bool ((nthM ms i).f)]⟩] ∧ MapM wr bm ms ∧ Below w.heap.size w wr) ∧ ∀ b, b < j → memB (aftM Wd Ht (nthM ms i) (nthM ms b)) ms = true) (fun s53 _ => ms.length - (intOf s53).toNat)
    case atStart => exact ⟨0, Nat.zero_le _, rfl, ⟨HE.out, HM.out, HB.out⟩, fun b hb => by omega⟩
    case round =>
     obtain ⟨j, hjl, rfl, ⟨he, hmm, hb⟩, hrow⟩ := hrel; have HROW := Hd.mk hrow; clear HB HE HM hrow; have HB := Hd.mk hb; have HM := Hd.mk hmm; have HE : Hd (Env wr [⟨w.heap.size, 63, [.int .i64 Wd, .int .i64 Ht]⟩, ⟨g9, 65, [.int .i64 ((nthM ms i).x), .int .i64 ((nthM ms i).y), .int .i64 ((nthM ms i).t), .bool ((nthM ms i).f)]⟩]) := ⟨he⟩; clear he hmm hb; by_cases hj : j < ms.length
     ·skip
      go_upto_region 16 with fail
      refine wp_region_vd 3 [55, 56, 11] [] [2] 65 [.int .i64 0, .int .i64 0, .int .i64 0, .bool false] [isV (.pointer (some (ad.add (j * 4)))), isV (.agg #[.int .i64 ((nthM ms j).x), .int .i64 ((nthM ms j).y), .int .i64 ((nthM ms j).t), .bool ((nthM ms j).f)]), SP.any] (by rfl) alloc_M ?_ ?_
      ·intro qi qh qA aa wx hb hs hd
       match qi, qh, qA with
       | 0, _, _ => exact aL (op_run rfl (op_idxVM hj rfl (hs 51 rfl) (hs 53 rfl) _) rfl) | 1, _, _ => exact aL (op_ldvVM rfl rfl (hd 0 rfl) ((HRM.out.to (bel_then HB.out hb)).at_ (at_nthM hj))) | 2, _, h => cases h | qi + 3, h, _ => omega
      intro vs X1 hb hv hal hne; have HL0 := Hd.mk (HE.out.lt); have HBW := HB; replace HB := Hd.mk (bel_then HB.out hb); replace HE := Hd.mk (HE.out.to hb); have HML := Hd.mk HM.out.lt; replace HM := Hd.mk (HM.out.to hb); have e56 : vs 56 = .agg #[.int .i64 ((nthM ms j).x), .int .i64 ((nthM ms j).y), .int .i64 ((nthM ms j).t), .bool ((nthM ms j).f)] := hv 1 (by decide) rfl; obtain ⟨g11, e11, l11, b11⟩ : ∃ g, vs 11 = .pointer (some ⟨g, 0, none⟩) ∧ _ := hal 2 rfl; replace HE : Hd (Env X1 [⟨w.heap.size, 63, [.int .i64 Wd, .int .i64 Ht]⟩, ⟨g9, 65, [.int .i64 ((nthM ms i).x), .int .i64 ((nthM ms i).y), .int .i64 ((nthM ms i).t), .bool ((nthM ms i).f)]⟩, ⟨g11, 65, [.int .i64 0, .int .i64 0, .int .i64 0, .bool false]⟩]) := ⟨Env.addne (e := ⟨g11, 65, [.int .i64 0, .int .i64 0, .int .i64 0, .bool false]⟩) HE.out b11 (fun e' he => Nat.ne_of_lt (Nat.lt_of_lt_of_le (HL0.out e' he) l11))⟩; have HMG11 : Hd (bm < g11) := ⟨Nat.lt_of_lt_of_le HML.out l11⟩; have G11 : Hd (w.heap.size ≤ g11) := ⟨Nat.le_trans HBW.out.size l11⟩; simp only [PA, e56, e11]; clear hv hal hne hb HL0 HBW e56 e11 l11 b11 HML; refine wpList_st rfl rfl rfl rfl rfl (sto_M (HE.out.get 2 rfl)) ?_; have HE' : Env (putL X1 g11 0 [.int .i64 ((nthM ms j).x), .int .i64 ((nthM ms j).y), .int .i64 ((nthM ms j).t), .bool ((nthM ms j).f)]) [⟨w.heap.size, 63, [.int .i64 Wd, .int .i64 Ht]⟩, ⟨g9, 65, [.int .i64 ((nthM ms i).x), .int .i64 ((nthM ms i).y), .int .i64 ((nthM ms i).t), .bool ((nthM ms i).f)]⟩, ⟨g11, 65, [.int .i64 ((nthM ms j).x), .int .i64 ((nthM ms j).y), .int .i64 ((nthM ms j).t), .bool ((nthM ms j).f)]⟩] := HE.out.putF 2 rfl rfl; have HB' := putL_below (show w.heap.size ≤ g11 from G11.out) [.int .i64 ((nthM ms j).x), .int .i64 ((nthM ms j).y), .int .i64 ((nthM ms j).t), .bool ((nthM ms j).f)] _ 0 HB.out; replace HM := Hd.mk (HM.out.put (vs := [.int .i64 ((nthM ms j).x), .int .i64 ((nthM ms j).y), .int .i64 ((nthM ms j).t), .bool ((nthM ms j).f)]) (o := 0) HMG11.out); generalize putL X1 g11 0 [.int .i64 ((nthM ms j).x), .int .i64 ((nthM ms j).y), .int .i64 ((nthM ms j).t), .bool ((nthM ms j).f)] = X2 at *; replace HE := Hd.mk HE'; replace HB := Hd.mk HB'; clear HE' HB'; cases hin : memB (aftM Wd Ht (nthM ms i) (nthM ms j)) ms
      ·have HIN := Hd.mk hin; clear hin; go_upto_region 17 with fail
       refine wp_region_vd 7 [57, 58, 59, 60, 61, 62, 63] [0, 6] [] 63 [.int .i64 0, .int .i64 0] [isV (.map (some bm)), isV (.agg #[.int .i64 Wd, .int .i64 Ht]), isV (.agg #[.int .i64 ((nthM ms i).x), .int .i64 ((nthM ms i).y), .int .i64 ((nthM ms i).t), .bool ((nthM ms i).f)]), isV (.agg #[.int .i64 ((nthM ms j).x), .int .i64 ((nthM ms j).y), .int .i64 ((nthM ms j).t), .bool ((nthM ms j).f)]), isV (.agg #[.int .i64 ((aftM Wd Ht (nthM ms i) (nthM ms j)).x), .int .i64 ((aftM Wd Ht (nthM ms i) (nthM ms j)).y), .int .i64 ((aftM Wd Ht (nthM ms i) (nthM ms j)).t), .bool ((aftM Wd Ht (nthM ms i) (nthM ms j)).f)]), qF, qT] (by rfl) alloc_Z ?_ ?_
       ·intro qi qh qA aa wx hb hs hd
        match qi, qh, qA with
        | 0, _, _ => exact aL (op_mv rfl (hs 5 rfl)) | 1, _, _ => exact aL (op_ldZ rfl rfl (hs 2 rfl) ((HE.out.to hb).get 0 rfl)) | 2, _, _ => exact aL (op_ldM rfl rfl (hs 9 rfl) ((HE.out.to hb).get 1 rfl)) | 3, _, _ => exact aL (op_ldM rfl rfl (hs 11 rfl) ((HE.out.to hb).get 2 rfl)) | 4, _, _ => exact aL (op_call3 rfl rfl Tryz.call53 (by rw [(show aa.eval (.tmp 58) = .agg #[.int .i64 Wd, .int .i64 Ht] from (hd 1 rfl)), (show aa.eval (.tmp 59) = .agg #[.int .i64 ((nthM ms i).x), .int .i64 ((nthM ms i).y), .int .i64 ((nthM ms i).t), .bool ((nthM ms i).f)] from (hd 2 rfl)), (show aa.eval (.tmp 60) = .agg #[.int .i64 ((nthM ms j).x), .int .i64 ((nthM ms j).y), .int .i64 ((nthM ms j).t), .bool ((nthM ms j).f)] from (hd 3 rfl))]; exact after_got Wd Ht (nthM ms i).x (nthM ms i).y (nthM ms i).t (nthM ms j).x (nthM ms j).y (nthM ms j).t (nthM ms i).f (nthM ms j).f (HALL.out i hi).okm (HALL.out j hj).okm _)) | 5, _, _ => exact aL (wp_b (bool_eq HIN.out) (op_lookM rfl rfl (hd 0 rfl) (hd 4 rfl) (HM.out.to hb) (aft_al (HALL.out i hi) (HALL.out j hj)).wf)) | 6, _, _ => exact aL ⟨_, op_not rfl (hd 5 rfl), rfl⟩ | qi + 7, h, _ => omega
       intro vs X3 hb hv hal hne; replace HB := Hd.mk (bel_then HB.out hb); replace HE := Hd.mk (HE.out.to hb); have HML := Hd.mk HM.out.lt; replace HM := Hd.mk (HM.out.to hb); have e63 : vs 63 = .bool true := hv 6 (by decide) rfl; simp only [PA, e63]; clear hv hal hne hb e63 HML; go_upto_region 18 with fail
       refine wp_region_vd 0 [] [] [] 63 [.int .i64 0, .int .i64 0] [] (by rfl) alloc_Z ?_ ?_
       ·intro qi qh qA aa wx hb hs hd
        match qi, qh, qA with
        | qi + 0, h, _ => omega
       intro vs X4 hb hv hal hne; replace HB := Hd.mk (bel_then HB.out hb); replace HE := Hd.mk (HE.out.to hb); have HML := Hd.mk HM.out.lt; replace HM := Hd.mk (HM.out.to hb); simp only [PA]; clear hv hal hne hb HML; go_wp2_with fail
       go_ret
       exact ⟨_, rfl, HB.out, by rw [(gB_clos hi hj HIN.out)]; rfl⟩
      have HIN := Hd.mk hin; clear hin; go_upto_region 17 with fail
      refine wp_region_vd 7 [57, 58, 59, 60, 61, 62, 63] [0, 6] [] 63 [.int .i64 0, .int .i64 0] [isV (.map (some bm)), isV (.agg #[.int .i64 Wd, .int .i64 Ht]), isV (.agg #[.int .i64 ((nthM ms i).x), .int .i64 ((nthM ms i).y), .int .i64 ((nthM ms i).t), .bool ((nthM ms i).f)]), isV (.agg #[.int .i64 ((nthM ms j).x), .int .i64 ((nthM ms j).y), .int .i64 ((nthM ms j).t), .bool ((nthM ms j).f)]), isV (.agg #[.int .i64 ((aftM Wd Ht (nthM ms i) (nthM ms j)).x), .int .i64 ((aftM Wd Ht (nthM ms i) (nthM ms j)).y), .int .i64 ((aftM Wd Ht (nthM ms i) (nthM ms j)).t), .bool ((aftM Wd Ht (nthM ms i) (nthM ms j)).f)]), qT, qF] (by rfl) alloc_Z ?_ ?_
      ·intro qi qh qA aa wx hb hs hd
       match qi, qh, qA with
       | 0, _, _ => exact aL (op_mv rfl (hs 5 rfl)) | 1, _, _ => exact aL (op_ldZ rfl rfl (hs 2 rfl) ((HE.out.to hb).get 0 rfl)) | 2, _, _ => exact aL (op_ldM rfl rfl (hs 9 rfl) ((HE.out.to hb).get 1 rfl)) | 3, _, _ => exact aL (op_ldM rfl rfl (hs 11 rfl) ((HE.out.to hb).get 2 rfl)) | 4, _, _ => exact aL (op_call3 rfl rfl Tryz.call53 (by rw [(show aa.eval (.tmp 58) = .agg #[.int .i64 Wd, .int .i64 Ht] from (hd 1 rfl)), (show aa.eval (.tmp 59) = .agg #[.int .i64 ((nthM ms i).x), .int .i64 ((nthM ms i).y), .int .i64 ((nthM ms i).t), .bool ((nthM ms i).f)] from (hd 2 rfl)), (show aa.eval (.tmp 60) = .agg #[.int .i64 ((nthM ms j).x), .int .i64 ((nthM ms j).y), .int .i64 ((nthM ms j).t), .bool ((nthM ms j).f)] from (hd 3 rfl))]; exact after_got Wd Ht (nthM ms i).x (nthM ms i).y (nthM ms i).t (nthM ms j).x (nthM ms j).y (nthM ms j).t (nthM ms i).f (nthM ms j).f (HALL.out i hi).okm (HALL.out j hj).okm _)) | 5, _, _ => exact aL (wp_b (bool_eq HIN.out) (op_lookM rfl rfl (hd 0 rfl) (hd 4 rfl) (HM.out.to hb) (aft_al (HALL.out i hi) (HALL.out j hj)).wf)) | 6, _, _ => exact aL ⟨_, op_not rfl (hd 5 rfl), rfl⟩ | qi + 7, h, _ => omega
      intro vs X3 hb hv hal hne; replace HB := Hd.mk (bel_then HB.out hb); replace HE := Hd.mk (HE.out.to hb); have HML := Hd.mk HM.out.lt; replace HM := Hd.mk (HM.out.to hb); have e63 : vs 63 = .bool false := hv 6 (by decide) rfl; simp only [PA, e63]; clear hv hal hne hb e63 HML; go_wp2_with fail
      go_roundw
      case rel => exact ⟨j + 1, by omega, by go_num, ⟨Env.front (L := [⟨w.heap.size, 63, [.int .i64 Wd, .int .i64 Ht]⟩, ⟨g9, 65, [.int .i64 ((nthM ms i).x), .int .i64 ((nthM ms i).y), .int .i64 ((nthM ms i).t), .bool ((nthM ms i).f)]⟩]) HE.out, HM.out, HB.out⟩, fun b hb => by
       by_cases e : b = j
       ·rw [e]; exact HIN.out
       exact HROW.out b (by omega)⟩
      case measure => simp [intOf]; omega
     have e2 : j = ms.length := by omega
     go_wp2_with fail
     go_roundw
     case rel => exact ⟨i + 1, by omega, by go_num, ⟨Env.front (L := [⟨w.heap.size, 63, [.int .i64 Wd, .int .i64 Ht]⟩]) HE.out, HM.out, HB.out⟩, fun a b ha hb => by
      by_cases e : a = i
      ·rw [e]; exact HROW.out b (by omega)
      exact HCL.out a b (by omega) hb⟩
     case measure => simp [intOf]; omega
   have HY := Hd.mk (gB_yes HST1.out HZ.out (fun a b ha hb => HCL.out a b (by omega) hb)); go_wp2_with fail
   go_ret
   exact ⟨_, rfl, HB.out, by rw [HY.out]; rfl⟩
end Go.Proofs.YtddbmckbankmeaaGreat
