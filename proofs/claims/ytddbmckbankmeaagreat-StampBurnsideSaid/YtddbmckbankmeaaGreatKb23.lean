/- Part 23 of the texts behind this claim. -/
import Derived.Test.YtddbmckbankmeaaGreatKb22
set_option linter.unusedVariables false
set_option linter.unusedSimpArgs false
namespace Go.Proofs.YtddbmckbankmeaaGreat
open Go.RowKit
theorem memB_add (m n : Mv) (ms : List Mv) : memB m (ms ++ [n]) = (memB m ms || mvEq m n) := by
 unfold memB; rw [List.any_append]; simp
def InB (W H : Int) (bs : List Bool) (ms : List Mv) : Prop := bs.length = (8 * W * H).toNat ∧ ∀ m, Al W H m → bs.getD (numM W H m).toNat false = memB m ms
theorem inB_nil (W H : Int) : InB W H (List.replicate (8 * W * H).toNat false) [] := by
 refine ⟨List.length_replicate, fun m h => ?_⟩; rw [List.getD_eq_getElem?_getD, List.getElem?_replicate]; split <;> rfl
theorem inB_set {W H : Int} {bs : List Bool} {ms : List Mv} {m : Mv} (h : InB W H bs ms) (hm : Al W H m) : InB W H (bs.set (numM W H m).toNat true) (ms ++ [m]) := by
 have hl := num_lt hm; refine ⟨by rw [List.length_set]; exact h.1, fun n hn => ?_⟩; have hl2 := num_lt hn; rw [memB_add, ← h.2 n hn, List.getD_eq_getElem?_getD, List.getD_eq_getElem?_getD]; by_cases e : (numM W H m).toNat = (numM W H n).toNat
 ·have : n = m := num_inj hn hm (by omega); subst this; rw [List.getElem?_set_self (by rw [h.1]; omega), show mvEq n n = true from mvEq_iff.2 rfl]; simp
 rw [List.getElem?_set_ne e]
 have : mvEq n m = false := by
  cases hq : mvEq n m
  ·rfl
  have := mvEq_iff.1 hq; subst this; exact absurd rfl e
 rw [this, Bool.or_false]
structure RG (W H : Nat) (ms : List Mv) : Prop where
 one : 1 ≤ ms.length
 few : (ms.length : Int) ≤ 8 * (W : Int) * (H : Int)
 fit : ∀ i, i < ms.length → alB W H (nthM ms i).x (nthM ms i).y (nthM ms i).t = true
 ord : ms = (mvs1 W H 2).filter fun x => memB x ms
 clo : ∀ i j, i < ms.length → j < ms.length → memB (aftM W H (nthM ms i) (nthM ms j)) ms = true
 zero : memB ⟨0, 0, 0, false⟩ ms = true
noncomputable def rGB (W H : Nat) (ms : List Mv) : Bool := @decide (RG W H ms) (Classical.propDecidable _)
theorem rGB_no {W H : Nat} {ms : List Mv} (h : ¬ RG W H ms) : rGB W H ms = false := by unfold rGB; exact @decide_eq_false _ (Classical.propDecidable _) h
theorem rGB_yes {W H : Nat} {ms : List Mv} (h : RG W H ms) : rGB W H ms = true := by unfold rGB; exact @decide_eq_true _ (Classical.propDecidable _) h
def metL (W H : Nat) (ms : List Mv) (j : Nat) : List Mv := ((mvs1 W H 2).take j).filter fun x => memB x ms
theorem metL_miss {W H : Nat} {ms : List Mv} {j : Nat} {x : Mv} (hx : (mvs1 W H 2)[j]? = some x) (h : memB x ms = false) : metL W H ms (j + 1) = metL W H ms j := by
 unfold metL; rw [List.take_add_one, hx, List.filter_append]; simp [h]
theorem metL_hit {W H : Nat} {ms : List Mv} {j : Nat} {x : Mv} (hx : (mvs1 W H 2)[j]? = some x) (h : memB x ms = true) : metL W H ms (j + 1) = metL W H ms j ++ [x] := by
 unfold metL; rw [List.take_add_one, hx, List.filter_append]; simp [h]
theorem metL_at {W H : Nat} {ms : List Mv} {j : Nat} {x : Mv} (hx : (mvs1 W H 2)[j]? = some x) (h : memB x ms = true) (hg : RG W H ms) : ms[(metL W H ms j).length]? = some x := by
 have e : mvs1 W H 2 = (mvs1 W H 2).take (j + 1) ++ (mvs1 W H 2).drop (j + 1) := (List.take_append_drop _ _).symm
 have e2 : ms = metL W H ms (j + 1) ++ ((mvs1 W H 2).drop (j + 1)).filter fun x => memB x ms := by
  have := hg.ord; rw [e, List.filter_append] at this; exact this
 rw [metL_hit hx h] at e2
 have : (metL W H ms j ++ [x] ++ ((mvs1 W H 2).drop (j + 1)).filter fun x => memB x ms)[(metL W H ms j).length]? = some x := by
  rw [List.append_assoc, List.getElem?_append_right (Nat.le_refl _)]; simp
 rwa [← e2] at this
theorem metL_all (W H : Nat) (ms : List Mv) : metL W H ms (mvs1 W H 2).length = (mvs1 W H 2).filter fun x => memB x ms := by
 unfold metL; rw [List.take_length]
section
variable {o : Oper} {a : Act} {x y : Operand} {ty : TypeId} {m m' : Mv}
theorem op_neqN_ne (hne : ¬ m = m') (ho : o.op = .binOp .neq 56 x y ty) (hx : a.eval x = .agg #[.int .i64 m.x, .int .i64 m.y, .int .i64 m.t, .bool m.f]) (hy : a.eval y = .agg #[.int .i64 m'.x, .int .i64 m'.y, .int .i64 m'.t, .bool m'.f]) (w : World) :
  (execOp a.eval o).run Tryz.prog w = .ok (.value (.bool true)) w := by
 generalize a.eval = ev at hx hy ⊢; unfold execOp; simp only [ho, hx, hy]
 have key : ¬ (m.x = m'.x ∧ m.y = m'.y ∧ m.t = m'.t ∧ m.f = m'.f) := by
  intro ⟨e1, e2, e3, e4⟩; apply hne; obtain ⟨x, y, t, f⟩ := m; obtain ⟨x', y', t', f'⟩ := m'; simp only at e1 e2 e3 e4; subst e1 e2 e3 e4; rfl
 cases h1 : m.x == m'.x <;> cases h2 : m.y == m'.y <;> cases h3 : m.t == m'.t <;> cases h4 : m.f == m'.f <;> first
  | (exfalso; apply key; simp at h1 h2 h3 h4; exact ⟨h1, h2, h3, h4⟩)
  | simp [go_sem, h1, h2, h3, h4]
end
set_option maxRecDepth 100000 in
set_option maxHeartbeats 1000000 in
theorem rGroup_got (Wn Hn : Nat) (A : Option Addr) (k : Nat) (ms : List Mv) (w : World) (hrm : RdM w A ms) (hln : ms.length ≤ 9223372036854775807) (hs : sizeB Wn Hn = true) :
  Calls Tryz.prog 8 #[.int .i64 (((Wn : Nat) : Int)), .int .i64 (((Hn : Nat) : Int)), .slice A ms.length k] w (Got w (isV (.bool (rGB Wn Hn ms))).p) := by
 have HRM := Hd.mk hrm; have HS := Hd.mk hs; have hwh := sizeB_bounds hs; have HWn : Hd (1 ≤ Wn ∧ Wn ≤ 8) := ⟨by omega⟩; have HHn : Hd (1 ≤ Hn ∧ Hn ≤ 8) := ⟨by omega⟩; have b2 := mul_b (a := 8 * (Wn : Int)) (b := (Hn : Int)) (A := 64) (B := 8) (by omega) (by omega); have hLN : (mvs1 Wn Hn 2).length ≤ 512 := len1 Wn Hn HWn.out.2 HHn.out.2 2; have HZ0 : Hd (Al (Wn : Int) (Hn : Int) ⟨0, 0, 0, false⟩) := ⟨⟨by omega, by omega, ⟨Int.le_refl _, by show (0 : Int) < _; omega⟩, ⟨Int.le_refl _, by show (0 : Int) < _; omega⟩, ⟨Int.le_refl _, by show (0 : Int) < _; omega⟩, .inl rfl⟩⟩; have HNE : Hd (mvs1 Wn Hn 2 ≠ []) := ⟨List.ne_nil_of_mem ((mem_moves HS.out ⟨0, 0, 0, false⟩).2 HZ0.out)⟩; clear hrm hs; by_cases h1 : ms.length < 1
 ·go_enter Tryz.func8, Tryz.ntmps8
  go_upto_region 1 with fail
  have HE : Hd (Env w []) := ⟨trivial⟩; have HB : Hd (Below w.heap.size w w) := ⟨Below.refl _ _⟩; refine wp_region_vd 18 [17, 18, 19, 20, 21, 22, 23, 24, 25, 26, 27, 28, 29, 30, 31, 32, 33, 34] [0, 1, 3, 4, 5, 7, 8, 9, 17] [] 63 [.int .i64 0, .int .i64 0] [qI ((Wn : Nat) : Int), qI ((Hn : Nat) : Int), qT, qF, qF, isV (.slice A ms.length k), qI ((ms.length : Nat) : Int), qT, qT, qT, qU, qU, qU, qU, qU, qU, qU, qT] (by rfl) alloc_Z ?_ ?_
  ·intro qi qh qA aa wx hb hs hd
   match qi, qh, qA with
   | 0, _, _ => exact aL (op_mv rfl (hs 0 rfl)) | 1, _, _ => exact aL (op_mv rfl (hs 1 rfl)) | 2, _, _ => exact aL (wp_b (bool_eq HS.out) (op_call2 rfl rfl Tryz.call34 (by rw [(show aa.eval (.tmp 17) = .int .i64 (((Wn : Nat) : Int)) from (hd 0 rfl)), (show aa.eval (.tmp 18) = .int .i64 (((Hn : Nat) : Int)) from (hd 1 rfl))]; exact rSize_got Wn Hn _))) | 3, _, _ => exact aL ⟨_, op_not rfl (hd 2 rfl), rfl⟩ | 4, _, _ => exact aL (op_mv rfl (hd 3 rfl)) | 5, _, _ => exact aG (hd 4 rfl) (op_mv rfl (hs 2 rfl)) | 6, _, _ => exact aG (hd 4 rfl) (op_lenvVN rfl rfl (hd 5 rfl)) | 7, _, _ => exact aG (hd 4 rfl) (pure_b (bool_eq (decide_eq_true (by omega))) (⟨_, op_lssI rfl (hd 6 rfl) rfl, rfl⟩)) | 8, _, _ => exact aL ⟨_, op_pickF rfl (hd 4 rfl) (hd 7 rfl), rfl⟩ | 9, _, _ => exact aL (op_mv rfl (hd 8 rfl)) | 10, _, _ => exact aS (hd 9 rfl) | 11, _, _ => exact aS (hd 9 rfl) | 12, _, _ => exact aS (hd 9 rfl) | 13, _, _ => exact aS (hd 9 rfl) | 14, _, _ => exact aS (hd 9 rfl) | 15, _, _ => exact aS (hd 9 rfl) | 16, _, _ => exact aS (hd 9 rfl) | 17, _, _ => exact aL ⟨_, op_pickT rfl (hd 9 rfl) rfl, rfl⟩ | qi + 18, h, _ => omega
  intro vs X1 hb hv hal hne; replace HB := Hd.mk (bel_then HB.out hb); replace HE := Hd.mk (HE.out.to hb); have e34 : vs 34 = .bool true := hv 17 (by decide) rfl; simp only [PA, e34]; clear hv hal hne hb e34; go_upto_region 2 with fail
  refine wp_region_vd 0 [] [] [] 63 [.int .i64 0, .int .i64 0] [] (by rfl) alloc_Z ?_ ?_
  ·intro qi qh qA aa wx hb hs hd
   match qi, qh, qA with
   | qi + 0, h, _ => omega
  intro vs X2 hb hv hal hne; replace HB := Hd.mk (bel_then HB.out hb); replace HE := Hd.mk (HE.out.to hb); simp only [PA]; clear hv hal hne hb; go_wp2_with fail
  go_ret
  exact ⟨_, rfl, HB.out, by rw [rGB_no (fun hg => by have h := hg.one; omega)]; rfl⟩
 by_cases h2 : 8 * (Wn : Int) * (Hn : Int) < (ms.length : Int)
 ·go_enter Tryz.func8, Tryz.ntmps8
  go_upto_region 1 with fail
  have HE : Hd (Env w []) := ⟨trivial⟩; have HB : Hd (Below w.heap.size w w) := ⟨Below.refl _ _⟩; refine wp_region_vd 18 [17, 18, 19, 20, 21, 22, 23, 24, 25, 26, 27, 28, 29, 30, 31, 32, 33, 34] [0, 1, 3, 4, 5, 7, 8, 9, 10, 12, 13, 14, 15, 16, 17] [] 63 [.int .i64 0, .int .i64 0] [qI ((Wn : Nat) : Int), qI ((Hn : Nat) : Int), qT, qF, qF, isV (.slice A ms.length k), qI ((ms.length : Nat) : Int), qF, qF, qF, isV (.slice A ms.length k), qI ((ms.length : Nat) : Int), qI ((Wn : Nat) : Int), qI (8 * (((Wn : Nat) : Int))), qI ((Hn : Nat) : Int), qI ((8 * (((Wn : Nat) : Int))) * (((Hn : Nat) : Int))), qT, qT] (by rfl) alloc_Z ?_ ?_
  ·intro qi qh qA aa wx hb hs hd
   match qi, qh, qA with
   | 0, _, _ => exact aL (op_mv rfl (hs 0 rfl)) | 1, _, _ => exact aL (op_mv rfl (hs 1 rfl)) | 2, _, _ => exact aL (wp_b (bool_eq HS.out) (op_call2 rfl rfl Tryz.call34 (by rw [(show aa.eval (.tmp 17) = .int .i64 (((Wn : Nat) : Int)) from (hd 0 rfl)), (show aa.eval (.tmp 18) = .int .i64 (((Hn : Nat) : Int)) from (hd 1 rfl))]; exact rSize_got Wn Hn _))) | 3, _, _ => exact aL ⟨_, op_not rfl (hd 2 rfl), rfl⟩ | 4, _, _ => exact aL (op_mv rfl (hd 3 rfl)) | 5, _, _ => exact aG (hd 4 rfl) (op_mv rfl (hs 2 rfl)) | 6, _, _ => exact aG (hd 4 rfl) (op_lenvVN rfl rfl (hd 5 rfl)) | 7, _, _ => exact aG (hd 4 rfl) (pure_b (bool_eq (decide_eq_false (by omega))) (⟨_, op_lssI rfl (hd 6 rfl) rfl, rfl⟩)) | 8, _, _ => exact aL ⟨_, op_pickF rfl (hd 4 rfl) (hd 7 rfl), rfl⟩ | 9, _, _ => exact aL (op_mv rfl (hd 8 rfl)) | 10, _, _ => exact aG (hd 9 rfl) (op_mv rfl (hs 2 rfl)) | 11, _, _ => exact aG (hd 9 rfl) (op_lenvVN rfl rfl (hd 10 rfl)) | 12, _, _ => exact aG (hd 9 rfl) (op_mv rfl (hs 0 rfl)) | 13, _, _ => exact aG (hd 9 rfl) ⟨_, op_mul (by unfold Fit; omega) rfl rfl (hd 12 rfl), rfl⟩ | 14, _, _ => exact aG (hd 9 rfl) (op_mv rfl (hs 1 rfl)) | 15, _, _ => exact aG (hd 9 rfl) ⟨_, op_mul (by unfold Fit; omega) rfl (hd 13 rfl) (hd 14 rfl), rfl⟩ | 16, _, _ => exact aG (hd 9 rfl) (pure_b (bool_eq (decide_eq_true (by omega))) (⟨_, op_gtrI rfl (hd 11 rfl) (hd 15 rfl), rfl⟩)) | 17, _, _ => exact aL ⟨_, op_pickF rfl (hd 9 rfl) (hd 16 rfl), rfl⟩ | qi + 18, h, _ => omega
  intro vs X1 hb hv hal hne; replace HB := Hd.mk (bel_then HB.out hb); replace HE := Hd.mk (HE.out.to hb); have e34 : vs 34 = .bool true := hv 17 (by decide) rfl; simp only [PA, e34]; clear hv hal hne hb e34; go_upto_region 2 with fail
  refine wp_region_vd 0 [] [] [] 63 [.int .i64 0, .int .i64 0] [] (by rfl) alloc_Z ?_ ?_
  ·intro qi qh qA aa wx hb hs hd
   match qi, qh, qA with
   | qi + 0, h, _ => omega
  intro vs X2 hb hv hal hne; replace HB := Hd.mk (bel_then HB.out hb); replace HE := Hd.mk (HE.out.to hb); simp only [PA]; clear hv hal hne hb; go_wp2_with fail
  go_ret
  exact ⟨_, rfl, HB.out, by rw [rGB_no (fun hg => by have h := hg.few; omega)]; rfl⟩
 have HONE : Hd (1 ≤ ms.length) := ⟨by omega⟩; have HFEW : Hd ((ms.length : Int) ≤ 8 * (Wn : Int) * (Hn : Int)) := ⟨by omega⟩; go_enter Tryz.func8, Tryz.ntmps8
 go_upto_region 1 with fail
 have HE : Hd (Env w []) := ⟨trivial⟩; have HB : Hd (Below w.heap.size w w) := ⟨Below.refl _ _⟩; refine wp_region_vd 18 [17, 18, 19, 20, 21, 22, 23, 24, 25, 26, 27, 28, 29, 30, 31, 32, 33, 34] [0, 1, 3, 4, 5, 7, 8, 9, 10, 12, 13, 14, 15, 16, 17] [] 63 [.int .i64 0, .int .i64 0] [qI ((Wn : Nat) : Int), qI ((Hn : Nat) : Int), qT, qF, qF, isV (.slice A ms.length k), qI ((ms.length : Nat) : Int), qF, qF, qF, isV (.slice A ms.length k), qI ((ms.length : Nat) : Int), qI ((Wn : Nat) : Int), qI (8 * (((Wn : Nat) : Int))), qI ((Hn : Nat) : Int), qI ((8 * (((Wn : Nat) : Int))) * (((Hn : Nat) : Int))), qF, qF] (by rfl) alloc_Z ?_ ?_
 ·intro qi qh qA aa wx hb hs hd
  match qi, qh, qA with
  | 0, _, _ => exact aL (op_mv rfl (hs 0 rfl)) | 1, _, _ => exact aL (op_mv rfl (hs 1 rfl)) | 2, _, _ => exact aL (wp_b (bool_eq HS.out) (op_call2 rfl rfl Tryz.call34 (by rw [(show aa.eval (.tmp 17) = .int .i64 (((Wn : Nat) : Int)) from (hd 0 rfl)), (show aa.eval (.tmp 18) = .int .i64 (((Hn : Nat) : Int)) from (hd 1 rfl))]; exact rSize_got Wn Hn _))) | 3, _, _ => exact aL ⟨_, op_not rfl (hd 2 rfl), rfl⟩ | 4, _, _ => exact aL (op_mv rfl (hd 3 rfl)) | 5, _, _ => exact aG (hd 4 rfl) (op_mv rfl (hs 2 rfl)) | 6, _, _ => exact aG (hd 4 rfl) (op_lenvVN rfl rfl (hd 5 rfl)) | 7, _, _ => exact aG (hd 4 rfl) (pure_b (bool_eq (decide_eq_false (by omega))) (⟨_, op_lssI rfl (hd 6 rfl) rfl, rfl⟩)) | 8, _, _ => exact aL ⟨_, op_pickF rfl (hd 4 rfl) (hd 7 rfl), rfl⟩ | 9, _, _ => exact aL (op_mv rfl (hd 8 rfl)) | 10, _, _ => exact aG (hd 9 rfl) (op_mv rfl (hs 2 rfl)) | 11, _, _ => exact aG (hd 9 rfl) (op_lenvVN rfl rfl (hd 10 rfl)) | 12, _, _ => exact aG (hd 9 rfl) (op_mv rfl (hs 0 rfl)) | 13, _, _ => exact aG (hd 9 rfl) ⟨_, op_mul (by unfold Fit; omega) rfl rfl (hd 12 rfl), rfl⟩ | 14, _, _ => exact aG (hd 9 rfl) (op_mv rfl (hs 1 rfl)) | 15, _, _ => exact aG (hd 9 rfl) ⟨_, op_mul (by unfold Fit; omega) rfl (hd 13 rfl) (hd 14 rfl), rfl⟩ | 16, _, _ => exact aG (hd 9 rfl) (pure_b (bool_eq (decide_eq_false (by omega))) (⟨_, op_gtrI rfl (hd 11 rfl) (hd 15 rfl), rfl⟩)) | 17, _, _ => exact aL ⟨_, op_pickF rfl (hd 9 rfl) (hd 16 rfl), rfl⟩ | qi + 18, h, _ => omega
 intro vs X1 hb hv hal hne; replace HB := Hd.mk (bel_then HB.out hb); replace HE := Hd.mk (HE.out.to hb); have e34 : vs 34 = .bool false := hv 17 (by decide) rfl; simp only [PA, e34]; clear hv hal hne hb e34; go_upto_region 3 with fail
 refine wp_region_vd 5 [35, 36, 37, 38, 39] [0, 1, 2, 3] [] 63 [.int .i64 0, .int .i64 0] [qI ((Wn : Nat) : Int), qI (8 * (((Wn : Nat) : Int))), qI ((Hn : Nat) : Int), qI (((8 * ((Wn : Nat) : Int) * ((Hn : Nat) : Int)).toNat : Nat) : Int), isBs w.heap.size (List.replicate ((8 * ((Wn : Nat) : Int) * ((Hn : Nat) : Int)).toNat) false)] (by rfl) alloc_Z ?_ ?_
 ·intro qi qh qA aa wx hb hs hd
  match qi, qh, qA with
  | 0, _, _ => exact aL (op_mv rfl (hs 0 rfl)) | 1, _, _ => exact aL ⟨_, op_mul (by unfold Fit; omega) rfl rfl (hd 0 rfl), rfl⟩ | 2, _, _ => exact aL (op_mv rfl (hs 1 rfl)) | 3, _, _ => exact aL (pure_b (int_eq (by omega)) (⟨_, op_mul (by unfold Fit; omega) rfl (hd 1 rfl) (hd 2 rfl), rfl⟩)) | 4, _, _ => exact aL (op_makeB (by omega) rfl rfl (hd 3 rfl) (hd 3 rfl) _ (Nat.le_trans HB.out.size hb.size)) | qi + 5, h, _ => omega
 intro vs X2 hb hv hal hne; replace HB := Hd.mk (bel_then HB.out hb); replace HE := Hd.mk (HE.out.to hb); obtain ⟨gI, e39, lbI, hbI⟩ : ∃ g, vs 39 = .slice (some ⟨g, 0, none⟩) (List.replicate ((8 * ((Wn : Nat) : Int) * ((Hn : Nat) : Int)).toNat) false).length (List.replicate ((8 * ((Wn : Nat) : Int) * ((Hn : Nat) : Int)).toNat) false).length ∧ w.heap.size ≤ g ∧ BB X2 g (List.replicate ((8 * ((Wn : Nat) : Int) * ((Hn : Nat) : Int)).toNat) false) := hv 4 (by decide) rfl; rw [List.length_replicate] at e39; have HM := Hd.mk hbI; have HGI := Hd.mk lbI; clear hbI lbI; simp only [PA, e39]; clear hv hal hne hb e39; go_upto_region 4 with fail
 refine wp_region_vd 3 [40, 41, 42] [0, 2] [] 63 [.int .i64 0, .int .i64 0] [isV (.slice A ms.length k), qI ((ms.length : Nat) : Int), qI 0] (by rfl) alloc_Z ?_ ?_
 ·intro qi qh qA aa wx hb hs hd
  match qi, qh, qA with
  | 0, _, _ => exact aL (op_mv rfl (hs 2 rfl)) | 1, _, _ => exact aL (op_lenvVN rfl rfl (hd 0 rfl)) | 2, _, _ => exact aL (op_mv rfl rfl) | qi + 3, h, _ => omega
 intro vs X3 hb hv hal hne; replace HB := Hd.mk (bel_then HB.out hb); replace HE := Hd.mk (HE.out.to hb); have HML := Hd.mk HM.out.lt; replace HM := Hd.mk (HM.out.to hb); have e40 : vs 40 = .slice A ms.length k := hv 0 (by decide) rfl; have e41 : vs 41 = .int .i64 (((ms.length : Nat) : Int)) := hv 1 (by decide) rfl; have e42 : vs 42 = .int .i64 0 := hv 2 (by decide) rfl; simp only [PA, e40, e41, e42]; clear hv hal hne hb e40 e41 e42 HML; go_wp2_with fail
 go_loopw [42] (fun s42 wr => ∃ j : Nat, j ≤ ms.length ∧ s42 = .int .i64 j ∧ (∃ bs, BB wr gI bs ∧ InB Wn Hn bs (ms.take j)) ∧ Below w.heap.size w wr ∧ ∀ i, i < j → alB Wn Hn (nthM ms i).x (nthM ms i).y (nthM ms i).t = true) (fun s42 _ => ms.length - (intOf s42).toNat)
 case atStart => exact ⟨0, Nat.zero_le _, rfl, ⟨_, HM.out, inB_nil _ _⟩, HB.out, fun i hi => by omega⟩
 case round =>
  obtain ⟨j, hjl, rfl, ⟨bs, hbb, hin⟩, hb, hst⟩ := hrel; have HST := Hd.mk hst; have HIN := Hd.mk hin; clear HB HE HM hst hin; have HB := Hd.mk hb; have HM := Hd.mk hbb; have HE : Hd (Env wr []) := ⟨trivial⟩; clear hb hbb; by_cases hj : j < ms.length
  ·obtain ⟨ad, rfl⟩ := HRM.out.some_ (at_nthM hj); go_upto_region 6 with fail
   refine wp_region_vd 3 [44, 45, 9] [] [2] 56 [.int .i64 0, .int .i64 0, .int .i64 0, .bool false] [isV (.pointer (some (ad.add (j * 4)))), isV (.agg #[.int .i64 ((nthM ms j).x), .int .i64 ((nthM ms j).y), .int .i64 ((nthM ms j).t), .bool ((nthM ms j).f)]), SP.any] (by rfl) alloc_N ?_ ?_
   ·intro qi qh qA aa wx hb hs hd
    match qi, qh, qA with
    | 0, _, _ => exact aL (op_run rfl (op_idxVN hj rfl (hs 40 rfl) (hs 42 rfl) _) rfl) | 1, _, _ => exact aL (op_ldvVN rfl rfl (hd 0 rfl) ((HRM.out.to (bel_then HB.out hb)).at_ (at_nthM hj))) | 2, _, h => cases h | qi + 3, h, _ => omega
   intro vs X1 hb hv hal hne; have HL0 := Hd.mk (HE.out.lt); have HBW := HB; replace HB := Hd.mk (bel_then HB.out hb); replace HE := Hd.mk (HE.out.to hb); have HML := Hd.mk HM.out.lt; replace HM := Hd.mk (HM.out.to hb); have e45 : vs 45 = .agg #[.int .i64 ((nthM ms j).x), .int .i64 ((nthM ms j).y), .int .i64 ((nthM ms j).t), .bool ((nthM ms j).f)] := hv 1 (by decide) rfl; obtain ⟨g9, e9, l9, b9⟩ : ∃ g, vs 9 = .pointer (some ⟨g, 0, none⟩) ∧ _ := hal 2 rfl; replace HE : Hd (Env X1 [⟨g9, 56, [.int .i64 0, .int .i64 0, .int .i64 0, .bool false]⟩]) := ⟨Env.addne (e := ⟨g9, 56, [.int .i64 0, .int .i64 0, .int .i64 0, .bool false]⟩) HE.out b9 (fun e' he => Nat.ne_of_lt (Nat.lt_of_lt_of_le (HL0.out e' he) l9))⟩; have HMG9 : Hd (gI < g9) := ⟨Nat.lt_of_lt_of_le HML.out l9⟩; have G9 : Hd (w.heap.size ≤ g9) := ⟨Nat.le_trans HBW.out.size l9⟩; simp only [PA, e45, e9]; clear hv hal hne hb HL0 HBW e45 e9 l9 b9 HML; refine wpList_st rfl rfl rfl rfl rfl (sto_N (HE.out.get 0 rfl)) ?_; have HE' : Env (putL X1 g9 0 [.int .i64 ((nthM ms j).x), .int .i64 ((nthM ms j).y), .int .i64 ((nthM ms j).t), .bool ((nthM ms j).f)]) [⟨g9, 56, [.int .i64 ((nthM ms j).x), .int .i64 ((nthM ms j).y), .int .i64 ((nthM ms j).t), .bool ((nthM ms j).f)]⟩] := HE.out.putF 0 rfl rfl; have HB' := putL_below (show w.heap.size ≤ g9 from G9.out) [.int .i64 ((nthM ms j).x), .int .i64 ((nthM ms j).y), .int .i64 ((nthM ms j).t), .bool ((nthM ms j).f)] _ 0 HB.out; replace HM := Hd.mk (HM.out.put (vs := [.int .i64 ((nthM ms j).x), .int .i64 ((nthM ms j).y), .int .i64 ((nthM ms j).t), .bool ((nthM ms j).f)]) (o := 0) HMG9.out); generalize putL X1 g9 0 [.int .i64 ((nthM ms j).x), .int .i64 ((nthM ms j).y), .int .i64 ((nthM ms j).t), .bool ((nthM ms j).f)] = X2 at *; replace HE := Hd.mk HE'; replace HB := Hd.mk HB'; clear HE' HB'; cases hal : alB Wn Hn (nthM ms j).x (nthM ms j).y (nthM ms j).t
   ·have HAL := Hd.mk hal; clear hal; go_upto_region 7 with fail
    refine wp_region_vd 5 [46, 47, 48, 49, 50] [0, 1, 4] [] 63 [.int .i64 0, .int .i64 0] [qI ((Wn : Nat) : Int), qI ((Hn : Nat) : Int), isV (.agg #[.int .i64 ((nthM ms j).x), .int .i64 ((nthM ms j).y), .int .i64 ((nthM ms j).t), .bool ((nthM ms j).f)]), qF, qT] (by rfl) alloc_Z ?_ ?_
    ·intro qi qh qA aa wx hb hs hd
     match qi, qh, qA with
     | 0, _, _ => exact aL (op_mv rfl (hs 0 rfl)) | 1, _, _ => exact aL (op_mv rfl (hs 1 rfl)) | 2, _, _ => exact aL (op_ldN rfl rfl (hs 9 rfl) ((HE.out.to hb).get 0 rfl)) | 3, _, _ => exact aL (wp_b (bool_eq HAL.out) (op_call3 rfl rfl Tryz.call19 (by rw [(show aa.eval (.tmp 46) = .int .i64 (((Wn : Nat) : Int)) from (hd 0 rfl)), (show aa.eval (.tmp 47) = .int .i64 (((Hn : Nat) : Int)) from (hd 1 rfl)), (show aa.eval (.tmp 48) = .agg #[.int .i64 ((nthM ms j).x), .int .i64 ((nthM ms j).y), .int .i64 ((nthM ms j).t), .bool ((nthM ms j).f)] from (hd 2 rfl))]; exact Fits_got Wn Hn ((nthM ms j).x) ((nthM ms j).y) ((nthM ms j).t) ((nthM ms j).f) _))) | 4, _, _ => exact aL ⟨_, op_not rfl (hd 3 rfl), rfl⟩ | qi + 5, h, _ => omega
    intro vs X3 hb hv hal hne; replace HB := Hd.mk (bel_then HB.out hb); replace HE := Hd.mk (HE.out.to hb); have HML := Hd.mk HM.out.lt; replace HM := Hd.mk (HM.out.to hb); have e50 : vs 50 = .bool true := hv 4 (by decide) rfl; simp only [PA, e50]; clear hv hal hne hb e50 HML; go_upto_region 8 with fail
    refine wp_region_vd 0 [] [] [] 63 [.int .i64 0, .int .i64 0] [] (by rfl) alloc_Z ?_ ?_
    ·intro qi qh qA aa wx hb hs hd
     match qi, qh, qA with
     | qi + 0, h, _ => omega
    intro vs X4 hb hv hal hne; replace HB := Hd.mk (bel_then HB.out hb); replace HE := Hd.mk (HE.out.to hb); have HML := Hd.mk HM.out.lt; replace HM := Hd.mk (HM.out.to hb); simp only [PA]; clear hv hal hne hb HML; go_wp2_with fail
    go_ret
    exact ⟨_, rfl, HB.out, by rw [(rGB_no (fun hg => by have h := hg.fit j hj; rw [HAL.out] at h; cases h))]; rfl⟩
   have HAL := Hd.mk hal; clear hal; have HNA : Hd (Al Wn Hn (nthM ms j)) := ⟨al_of (f := (nthM ms j).f) HS.out HAL.out⟩; have hnl := num_lt HNA.out; go_upto_region 7 with fail
   refine wp_region_vd 5 [46, 47, 48, 49, 50] [0, 1, 4] [] 63 [.int .i64 0, .int .i64 0] [qI ((Wn : Nat) : Int), qI ((Hn : Nat) : Int), isV (.agg #[.int .i64 ((nthM ms j).x), .int .i64 ((nthM ms j).y), .int .i64 ((nthM ms j).t), .bool ((nthM ms j).f)]), qT, qF] (by rfl) alloc_Z ?_ ?_
   ·intro qi qh qA aa wx hb hs hd
    match qi, qh, qA with
    | 0, _, _ => exact aL (op_mv rfl (hs 0 rfl)) | 1, _, _ => exact aL (op_mv rfl (hs 1 rfl)) | 2, _, _ => exact aL (op_ldN rfl rfl (hs 9 rfl) ((HE.out.to hb).get 0 rfl)) | 3, _, _ => exact aL (wp_b (bool_eq HAL.out) (op_call3 rfl rfl Tryz.call19 (by rw [(show aa.eval (.tmp 46) = .int .i64 (((Wn : Nat) : Int)) from (hd 0 rfl)), (show aa.eval (.tmp 47) = .int .i64 (((Hn : Nat) : Int)) from (hd 1 rfl)), (show aa.eval (.tmp 48) = .agg #[.int .i64 ((nthM ms j).x), .int .i64 ((nthM ms j).y), .int .i64 ((nthM ms j).t), .bool ((nthM ms j).f)] from (hd 2 rfl))]; exact Fits_got Wn Hn ((nthM ms j).x) ((nthM ms j).y) ((nthM ms j).t) ((nthM ms j).f) _))) | 4, _, _ => exact aL ⟨_, op_not rfl (hd 3 rfl), rfl⟩ | qi + 5, h, _ => omega
   intro vs X3 hb hv hal hne; replace HB := Hd.mk (bel_then HB.out hb); replace HE := Hd.mk (HE.out.to hb); have HML := Hd.mk HM.out.lt; replace HM := Hd.mk (HM.out.to hb); have e50 : vs 50 = .bool false := hv 4 (by decide) rfl; simp only [PA, e50]; clear hv hal hne hb e50 HML; go_upto_region 9 with fail
   refine wp_region_vd 6 [51, 52, 53, 54, 55, 56] [0, 1, 2] [] 63 [.int .i64 0, .int .i64 0] [isV (.slice (some ⟨gI, 0, none⟩) ((8 * ((Wn : Nat) : Int) * ((Hn : Nat) : Int)).toNat) ((8 * ((Wn : Nat) : Int) * ((Hn : Nat) : Int)).toNat)), qI ((Wn : Nat) : Int), qI ((Hn : Nat) : Int), isV (.agg #[.int .i64 ((nthM ms j).x), .int .i64 ((nthM ms j).y), .int .i64 ((nthM ms j).t), .bool ((nthM ms j).f)]), qI (numM Wn Hn (nthM ms j)), isV (.pointer (some (⟨gI, (numM Wn Hn (nthM ms j)).toNat, none⟩)))] (by rfl) alloc_Z ?_ ?_
   ·intro qi qh qA aa wx hb hs hd
    match qi, qh, qA with
    | 0, _, _ => exact aL (op_mv rfl (hs 7 rfl)) | 1, _, _ => exact aL (op_mv rfl (hs 0 rfl)) | 2, _, _ => exact aL (op_mv rfl (hs 1 rfl)) | 3, _, _ => exact aL (op_ldN rfl rfl (hs 9 rfl) ((HE.out.to hb).get 0 rfl)) | 4, _, _ => exact aL (op_call3 rfl rfl Tryz.call35 (by rw [(show aa.eval (.tmp 52) = .int .i64 (((Wn : Nat) : Int)) from (hd 1 rfl)), (show aa.eval (.tmp 53) = .int .i64 (((Hn : Nat) : Int)) from (hd 2 rfl)), (show aa.eval (.tmp 54) = .agg #[.int .i64 ((nthM ms j).x), .int .i64 ((nthM ms j).y), .int .i64 ((nthM ms j).t), .bool ((nthM ms j).f)] from (hd 3 rfl))]; exact number_got Wn Hn (nthM ms j) HNA.out _)) | 5, _, _ => exact aL (op_run rfl (op_idxB (by omega) (by omega) rfl (hd 0 rfl) (hd 4 rfl) _) rfl) | qi + 6, h, _ => omega
   intro vs X4 hb hv hal hne; replace HB := Hd.mk (bel_then HB.out hb); replace HE := Hd.mk (HE.out.to hb); have HML := Hd.mk HM.out.lt; replace HM := Hd.mk (HM.out.to hb); have e56 : vs 56 = .pointer (some (⟨gI, (numM Wn Hn (nthM ms j)).toNat, none⟩)) := hv 5 (by decide) rfl; simp only [PA, e56]; clear hv hal hne hb e56 HML; have hlt9 : (numM Wn Hn (nthM ms j)).toNat < bs.length := by rw [HIN.out.1]; omega
   refine wpList_st rfl rfl rfl rfl rfl (sto_BB (b := true) HM.out hlt9) ?_; have HM1 := BB.set (b := true) HM.out hlt9; have HB1 := putL_below (show w.heap.size ≤ gI from HGI.out) [.bool true] _ (numM Wn Hn (nthM ms j)).toNat HB.out; generalize putL X4 gI (numM Wn Hn (nthM ms j)).toNat [.bool true] = XS at *; have HIN1 : InB Wn Hn (bs.set (numM Wn Hn (nthM ms j)).toNat true) (ms.take (j + 1)) := by rw [List.take_add_one, at_nthM hj]; exact inB_set HIN.out HNA.out
   replace HM := Hd.mk HM1; replace HB := Hd.mk HB1; clear HM1 HB1 HE; go_wp2_with fail
   go_roundw
   case rel => exact ⟨j + 1, by omega, by go_num, ⟨_, HM.out, HIN1⟩, HB.out, fun i hi => by
    by_cases e : i = j
    ·rw [e]; exact HAL.out
    exact HST.out i (by omega)⟩
   case measure => simp [intOf]; omega
  have e1 : j = ms.length := by omega
  have HIN1 : InB Wn Hn bs ms := by have h := HIN.out; rw [e1, List.take_length] at h; exact h
  replace HIN := Hd.mk HIN1; have HALL : Hd (∀ i, i < ms.length → Al Wn Hn (nthM ms i)) := ⟨fun i hi => al_of (f := (nthM ms i).f) HS.out (HST.out i (by omega))⟩; have HFIT : Hd (∀ i, i < ms.length → alB Wn Hn (nthM ms i).x (nthM ms i).y (nthM ms i).t = true) := ⟨fun i hi => HST.out i (by omega)⟩; clear HIN1 HST; go_upto_region 11 with fail
  refine wp_region_vd 0 [] [] [] 63 [.int .i64 0, .int .i64 0] [] (by rfl) alloc_Z ?_ ?_
  ·intro qi qh qA aa wx hb hs hd
   match qi, qh, qA with
   | qi + 0, h, _ => omega
  intro vs X1 hb hv hal hne; replace HB := Hd.mk (bel_then HB.out hb); replace HE := Hd.mk (HE.out.to hb); have HML := Hd.mk HM.out.lt; replace HM := Hd.mk (HM.out.to hb); simp only [PA]; clear hv hal hne hb HML; go_upto_region 12 with fail
  refine wp_region_vd 5 [58, 59, 60, 61, 62] [0, 1, 4] [] 63 [.int .i64 0, .int .i64 0] [qI ((Wn : Nat) : Int), qI ((Hn : Nat) : Int), isMs w.heap.size ((mvs1 Wn Hn 2)), qI (((mvs1 Wn Hn 2).length : Nat) : Int), qI 0] (by rfl) alloc_Z ?_ ?_
  ·intro qi qh qA aa wx hb hs hd
   match qi, qh, qA with
   | 0, _, _ => exact aL (op_mv rfl (hs 0 rfl)) | 1, _, _ => exact aL (op_mv rfl (hs 1 rfl)) | 2, _, _ => exact aL (op_call2 rfl rfl Tryz.call36 (by rw [show aa.eval (.tmp 58) = .int .i64 ((Wn : Nat) : Int) from hd 0 rfl, show aa.eval (.tmp 59) = .int .i64 ((Hn : Nat) : Int) from hd 1 rfl]; exact got_ms (Nat.le_trans HB.out.size hb.size) (rMoves_got Wn Hn HWn.out HHn.out _))) | 3, _, _ => exact aL (op_lenMs rfl rfl (hd 2 rfl)) | 4, _, _ => exact aL (op_mv rfl rfl) | qi + 5, h, _ => omega
  intro vs X2 hb hv hal hne; replace HB := Hd.mk (bel_then HB.out hb); replace HE := Hd.mk (HE.out.to hb); have HML := Hd.mk HM.out.lt; replace HM := Hd.mk (HM.out.to hb); have HO : Hd (OwnM w.heap.size X2 (vs 60) ((mvs1 Wn Hn 2))) := ⟨hv 2 (by decide) rfl⟩; obtain ⟨gM, kM, e60⟩ := own_shape HO.out HNE.out; rw [e60] at HO; have e61 : vs 61 = .int .i64 ((((mvs1 Wn Hn 2).length : Nat) : Int)) := hv 3 (by decide) rfl; have e62 : vs 62 = .int .i64 0 := hv 4 (by decide) rfl; simp only [PA, e60, e61, e62]; clear hv hal hne hb e60 e61 e62 HML; go_wp2_with fail
  go_loopw [10, 62] (fun s10 s62 wr => ∃ j : Nat, j ≤ (mvs1 Wn Hn 2).length ∧ s62 = .int .i64 j ∧ s10 = .int .i64 ((metL Wn Hn ms j).length : Nat) ∧ (BB wr gI bs ∧ OwnM w.heap.size wr (Value.slice (some ⟨gM, 0, none⟩) ((mvs1 Wn Hn 2)).length kM) (mvs1 Wn Hn 2) ∧ Below w.heap.size w wr) ∧ ms.take (metL Wn Hn ms j).length = metL Wn Hn ms j) (fun _ s62 _ => (mvs1 Wn Hn 2).length - (intOf s62).toNat)
  case atStart => exact ⟨0, Nat.zero_le _, rfl, rfl, ⟨HM.out, HO.out, HB.out⟩, rfl⟩
  case round =>
   obtain ⟨j, hjl, rfl, rfl, ⟨hbb, ho, hb⟩, hmt⟩ := hrel; have HMT := Hd.mk hmt; clear HB HE HM HO hmt; have HB := Hd.mk hb; have HM := Hd.mk hbb; have HO := Hd.mk ho; have HE : Hd (Env wr []) := ⟨trivial⟩; clear hb hbb ho; have hkl : (metL Wn Hn ms j).length ≤ ms.length := by have h := congrArg List.length HMT.out; rw [List.length_take] at h; omega
   by_cases hj : j < (mvs1 Wn Hn 2).length
   ·obtain ⟨x, hx⟩ : ∃ x, (mvs1 Wn Hn 2)[j]? = some x := ⟨_, List.getElem?_eq_getElem hj⟩; have HNA : Hd (Al Wn Hn x) := ⟨(mem_moves HS.out x).1 (List.mem_of_getElem? hx)⟩; have HJX := Hd.mk hx; have hnl := num_lt HNA.out; clear hx; generalize hkk : (metL Wn Hn ms j).length = kk at *; have HKK := Hd.mk hkk; clear hkk; go_upto_region 14 with fail
    refine wp_region_vd 3 [64, 65, 12] [] [2] 56 [.int .i64 0, .int .i64 0, .int .i64 0, .bool false] [isV (.pointer (some ⟨gM, j * 4, none⟩)), isV (.agg #[.int .i64 x.x, .int .i64 x.y, .int .i64 x.t, .bool x.f]), SP.any] (by rfl) alloc_N ?_ ?_
    ·intro qi qh qA aa wx hb hs hd
     match qi, qh, qA with
     | 0, _, _ => exact aL (op_run rfl (op_idxM hj rfl (hs 60 rfl) (hs 62 rfl) _) rfl) | 1, _, _ => exact aL (op_ldMs rfl rfl (hd 0 rfl) (own_at (HO.out.to hb) HJX.out)) | 2, _, h => cases h | qi + 3, h, _ => omega
    intro vs X1 hb hv hal hne; have HL0 := Hd.mk (HE.out.lt); have HBW := HB; replace HB := Hd.mk (bel_then HB.out hb); replace HE := Hd.mk (HE.out.to hb); have HML := Hd.mk HM.out.lt; replace HM := Hd.mk (HM.out.to hb); have HOL := Hd.mk HO.out.lt; replace HO := Hd.mk (HO.out.to hb); have e65 : vs 65 = .agg #[.int .i64 x.x, .int .i64 x.y, .int .i64 x.t, .bool x.f] := hv 1 (by decide) rfl; obtain ⟨g12, e12, l12, b12⟩ : ∃ g, vs 12 = .pointer (some ⟨g, 0, none⟩) ∧ _ := hal 2 rfl; replace HE : Hd (Env X1 [⟨g12, 56, [.int .i64 0, .int .i64 0, .int .i64 0, .bool false]⟩]) := ⟨Env.addne (e := ⟨g12, 56, [.int .i64 0, .int .i64 0, .int .i64 0, .bool false]⟩) HE.out b12 (fun e' he => Nat.ne_of_lt (Nat.lt_of_lt_of_le (HL0.out e' he) l12))⟩; have HMG12 : Hd (gI < g12) := ⟨Nat.lt_of_lt_of_le HML.out l12⟩; have HOG12 : Hd (∀ k, (Value.slice (some ⟨gM, 0, none⟩) ((mvs1 Wn Hn 2)).length kM).ownBlock = some k → k < g12) := ⟨fun k hk => Nat.lt_of_lt_of_le (HOL.out k hk).2 l12⟩; have G12 : Hd (w.heap.size ≤ g12) := ⟨Nat.le_trans HBW.out.size l12⟩; simp only [PA, e65, e12]; clear hv hal hne hb HL0 HBW e65 e12 l12 b12 HML HOL; refine wpList_st rfl rfl rfl rfl rfl (sto_N (HE.out.get 0 rfl)) ?_; have HE' : Env (putL X1 g12 0 [.int .i64 x.x, .int .i64 x.y, .int .i64 x.t, .bool x.f]) [⟨g12, 56, [.int .i64 x.x, .int .i64 x.y, .int .i64 x.t, .bool x.f]⟩] := HE.out.putF 0 rfl rfl; have HB' := putL_below (show w.heap.size ≤ g12 from G12.out) [.int .i64 x.x, .int .i64 x.y, .int .i64 x.t, .bool x.f] _ 0 HB.out; replace HM := Hd.mk (HM.out.put (vs := [.int .i64 x.x, .int .i64 x.y, .int .i64 x.t, .bool x.f]) (o := 0) HMG12.out); replace HO := Hd.mk (HO.out.put (vs := [.int .i64 x.x, .int .i64 x.y, .int .i64 x.t, .bool x.f]) (o := 0) HOG12.out); generalize putL X1 g12 0 [.int .i64 x.x, .int .i64 x.y, .int .i64 x.t, .bool x.f] = X2 at *; replace HE := Hd.mk HE'; replace HB := Hd.mk HB'; clear HE' HB'; cases hmx : memB x ms
    ·have HMX := Hd.mk hmx; clear hmx; go_upto_region 15 with fail
     refine wp_region_vd 7 [66, 67, 68, 69, 70, 71, 72] [0, 1, 2] [] 63 [.int .i64 0, .int .i64 0] [isV (.slice (some ⟨gI, 0, none⟩) ((8 * ((Wn : Nat) : Int) * ((Hn : Nat) : Int)).toNat) ((8 * ((Wn : Nat) : Int) * ((Hn : Nat) : Int)).toNat)), qI ((Wn : Nat) : Int), qI ((Hn : Nat) : Int), isV (.agg #[.int .i64 x.x, .int .i64 x.y, .int .i64 x.t, .bool x.f]), qI (numM Wn Hn x), isV (.pointer (some (⟨gI, (numM Wn Hn x).toNat, none⟩))), qF] (by rfl) alloc_Z ?_ ?_
     ·intro qi qh qA aa wx hb hs hd
      match qi, qh, qA with
      | 0, _, _ => exact aL (op_mv rfl (hs 7 rfl)) | 1, _, _ => exact aL (op_mv rfl (hs 0 rfl)) | 2, _, _ => exact aL (op_mv rfl (hs 1 rfl)) | 3, _, _ => exact aL (op_ldN rfl rfl (hs 12 rfl) ((HE.out.to hb).get 0 rfl)) | 4, _, _ => exact aL (op_call3 rfl rfl Tryz.call35 (by rw [(show aa.eval (.tmp 67) = .int .i64 (((Wn : Nat) : Int)) from (hd 1 rfl)), (show aa.eval (.tmp 68) = .int .i64 (((Hn : Nat) : Int)) from (hd 2 rfl)), (show aa.eval (.tmp 69) = .agg #[.int .i64 x.x, .int .i64 x.y, .int .i64 x.t, .bool x.f] from (hd 3 rfl))]; exact number_got Wn Hn x HNA.out _)) | 5, _, _ => exact aL (op_run rfl (op_idxB (by omega) (by omega) rfl (hd 0 rfl) (hd 4 rfl) _) rfl) | 6, _, _ => exact aL (wp_b (bool_eq HMX.out) (wp_b (bool_eq (HIN.out.2 _ HNA.out)) (op_ldB rfl rfl (hd 5 rfl) ((HM.out.to hb).cell (by rw [HIN.out.1]; omega))))) | qi + 7, h, _ => omega
     intro vs X3 hb hv hal hne; replace HB := Hd.mk (bel_then HB.out hb); replace HE := Hd.mk (HE.out.to hb); have HML := Hd.mk HM.out.lt; replace HM := Hd.mk (HM.out.to hb); have HOL := Hd.mk HO.out.lt; replace HO := Hd.mk (HO.out.to hb); have e72 : vs 72 = .bool false := hv 6 (by decide) rfl; simp only [PA, e72]; clear hv hal hne hb e72 HML HOL; go_wp2_with fail
     go_roundw
     case rel => exact ⟨j + 1, by omega, by go_num, by rw [metL_miss HJX.out HMX.out, HKK.out], ⟨HM.out, HO.out, HB.out⟩, by rw [metL_miss HJX.out HMX.out, HKK.out]; exact HMT.out⟩
     case measure => simp [intOf]; omega
    have HMX := Hd.mk hmx; clear hmx; go_upto_region 15 with fail
    refine wp_region_vd 7 [66, 67, 68, 69, 70, 71, 72] [0, 1, 2] [] 63 [.int .i64 0, .int .i64 0] [isV (.slice (some ⟨gI, 0, none⟩) ((8 * ((Wn : Nat) : Int) * ((Hn : Nat) : Int)).toNat) ((8 * ((Wn : Nat) : Int) * ((Hn : Nat) : Int)).toNat)), qI ((Wn : Nat) : Int), qI ((Hn : Nat) : Int), isV (.agg #[.int .i64 x.x, .int .i64 x.y, .int .i64 x.t, .bool x.f]), qI (numM Wn Hn x), isV (.pointer (some (⟨gI, (numM Wn Hn x).toNat, none⟩))), qT] (by rfl) alloc_Z ?_ ?_
    ·intro qi qh qA aa wx hb hs hd
     match qi, qh, qA with
     | 0, _, _ => exact aL (op_mv rfl (hs 7 rfl)) | 1, _, _ => exact aL (op_mv rfl (hs 0 rfl)) | 2, _, _ => exact aL (op_mv rfl (hs 1 rfl)) | 3, _, _ => exact aL (op_ldN rfl rfl (hs 12 rfl) ((HE.out.to hb).get 0 rfl)) | 4, _, _ => exact aL (op_call3 rfl rfl Tryz.call35 (by rw [(show aa.eval (.tmp 67) = .int .i64 (((Wn : Nat) : Int)) from (hd 1 rfl)), (show aa.eval (.tmp 68) = .int .i64 (((Hn : Nat) : Int)) from (hd 2 rfl)), (show aa.eval (.tmp 69) = .agg #[.int .i64 x.x, .int .i64 x.y, .int .i64 x.t, .bool x.f] from (hd 3 rfl))]; exact number_got Wn Hn x HNA.out _)) | 5, _, _ => exact aL (op_run rfl (op_idxB (by omega) (by omega) rfl (hd 0 rfl) (hd 4 rfl) _) rfl) | 6, _, _ => exact aL (wp_b (bool_eq HMX.out) (wp_b (bool_eq (HIN.out.2 _ HNA.out)) (op_ldB rfl rfl (hd 5 rfl) ((HM.out.to hb).cell (by rw [HIN.out.1]; omega))))) | qi + 7, h, _ => omega
    intro vs X3 hb hv hal hne; replace HB := Hd.mk (bel_then HB.out hb); replace HE := Hd.mk (HE.out.to hb); have HML := Hd.mk HM.out.lt; replace HM := Hd.mk (HM.out.to hb); have HOL := Hd.mk HO.out.lt; replace HO := Hd.mk (HO.out.to hb); have e72 : vs 72 = .bool true := hv 6 (by decide) rfl; simp only [PA, e72]; clear hv hal hne hb e72 HML HOL; by_cases hkn : kk < ms.length
    ·obtain ⟨ad, rfl⟩ := HRM.out.some_ (at_nthM hkn); by_cases heq : nthM ms kk = x
     ·have HEQ := Hd.mk heq; clear heq; go_upto_region 16 with fail
      refine wp_region_vg 12 [73, 74, 75, 76, 77, 78, 79, 80, 81, 82, 83, 84] [0, 1, 3, 4, 5, 6, 10, 11] [] 63 [.int .i64 0, .int .i64 0] [qI ((kk : Nat) : Int), isV (.slice (some ad) ms.length k), qI ((ms.length : Nat) : Int), qF, qF, isV (.slice (some ad) ms.length k), qI ((kk : Nat) : Int), isV (.pointer (some (ad.add (kk * 4)))), isV (.agg #[.int .i64 x.x, .int .i64 x.y, .int .i64 x.t, .bool x.f]), isV (.agg #[.int .i64 x.x, .int .i64 x.y, .int .i64 x.t, .bool x.f]), qF, qF] (by kernel_rfl) (by kernel_rfl) (by kernel_rfl) (by rfl) alloc_Z (fun d v c a w h => by cases d <;> exact h) ?_ ?_
      ·intro qi qh qA aa wx hb hs hd
       match qi, qh, qA with
       | 0, _, _ => exact aL (op_mv rfl (hs 10 rfl)) | 1, _, _ => exact aL (op_mv rfl (hs 2 rfl)) | 2, _, _ => exact aL (op_lenvVN rfl rfl (hd 1 rfl)) | 3, _, _ => exact aL (pure_b (bool_eq (decide_eq_false (by omega))) (⟨_, op_geqI rfl (hd 0 rfl) (hd 2 rfl), rfl⟩)) | 4, _, _ => exact aL (op_mv rfl (hd 3 rfl)) | 5, _, _ => exact aG (hd 4 rfl) (op_mv rfl (hs 2 rfl)) | 6, _, _ => exact aG (hd 4 rfl) (op_mv rfl (hs 10 rfl)) | 7, _, _ => exact aG (hd 4 rfl) (op_run rfl (op_idxVN hkn rfl (hd 5 rfl) (hd 6 rfl) _) rfl) | 8, _, _ => exact aG (hd 4 rfl) ((by have h := at_nthM hkn; rw [HEQ.out] at h; exact op_ldvVN rfl rfl (hd 7 rfl) ((HRM.out.to (bel_then HB.out hb)).at_ h))) | 9, _, _ => exact aG (hd 4 rfl) (op_ldN rfl rfl (hs 12 rfl) ((HE.out.to hb).get 0 rfl)) | 10, _, _ => exact aG (hd 4 rfl) ⟨_, op_neqN rfl (hd 8 rfl) (hd 9 rfl), rfl⟩ | 11, _, _ => exact aL ⟨_, op_pickF rfl (hd 4 rfl) (hd 10 rfl), rfl⟩ | qi + 12, h, _ => omega
      intro vs X4 hb hv hal hne; replace HB := Hd.mk (bel_then HB.out hb); replace HE := Hd.mk (HE.out.to hb); have HML := Hd.mk HM.out.lt; replace HM := Hd.mk (HM.out.to hb); have HOL := Hd.mk HO.out.lt; replace HO := Hd.mk (HO.out.to hb); have e84 : vs 84 = .bool false := hv 11 (by decide) rfl; simp only [PA, e84]; clear hv hal hne hb e84 HML HOL; go_upto_region 18 with fail
      refine wp_region_vd 2 [85, 86] [0, 1] [] 63 [.int .i64 0, .int .i64 0] [qI ((kk : Nat) : Int), qI ((((kk : Nat) : Int)) + 1)] (by rfl) alloc_Z ?_ ?_
      ·intro qi qh qA aa wx hb hs hd
       match qi, qh, qA with
       | 0, _, _ => exact aL (op_mv rfl (hs 10 rfl)) | 1, _, _ => exact aL ⟨_, op_add (by unfold Fit; omega) rfl (hd 0 rfl) rfl, rfl⟩ | qi + 2, h, _ => omega
      intro vs X5 hb hv hal hne; replace HB := Hd.mk (bel_then HB.out hb); replace HE := Hd.mk (HE.out.to hb); have HML := Hd.mk HM.out.lt; replace HM := Hd.mk (HM.out.to hb); have HOL := Hd.mk HO.out.lt; replace HO := Hd.mk (HO.out.to hb); have e86 : vs 86 = .int .i64 ((((kk : Nat) : Int)) + 1) := hv 1 (by decide) rfl; simp only [PA, e86]; clear hv hal hne hb e86 HML HOL; go_wp2_with fail
      go_roundw
      case rel => exact ⟨j + 1, by omega, by go_num, by rw [metL_hit HJX.out HMX.out, List.length_append, HKK.out]; rfl, ⟨HM.out, HO.out, HB.out⟩, by
       rw [metL_hit HJX.out HMX.out, List.length_append, HKK.out]; show ms.take (kk + 1) = _; rw [List.take_add_one, at_nthM hkn, HEQ.out, HMT.out]
       rfl⟩
      case measure => simp [intOf]; omega
     go_upto_region 16 with fail
     refine wp_region_vg 12 [73, 74, 75, 76, 77, 78, 79, 80, 81, 82, 83, 84] [0, 1, 3, 4, 5, 6, 10, 11] [] 63 [.int .i64 0, .int .i64 0] [qI ((kk : Nat) : Int), isV (.slice (some ad) ms.length k), qI ((ms.length : Nat) : Int), qF, qF, isV (.slice (some ad) ms.length k), qI ((kk : Nat) : Int), isV (.pointer (some (ad.add (kk * 4)))), isV (.agg #[.int .i64 ((nthM ms kk).x), .int .i64 ((nthM ms kk).y), .int .i64 ((nthM ms kk).t), .bool ((nthM ms kk).f)]), isV (.agg #[.int .i64 x.x, .int .i64 x.y, .int .i64 x.t, .bool x.f]), qT, qT] (by kernel_rfl) (by kernel_rfl) (by kernel_rfl) (by rfl) alloc_Z (fun d v c a w h => by cases d <;> exact h) ?_ ?_
     ·intro qi qh qA aa wx hb hs hd
      match qi, qh, qA with
      | 0, _, _ => exact aL (op_mv rfl (hs 10 rfl)) | 1, _, _ => exact aL (op_mv rfl (hs 2 rfl)) | 2, _, _ => exact aL (op_lenvVN rfl rfl (hd 1 rfl)) | 3, _, _ => exact aL (pure_b (bool_eq (decide_eq_false (by omega))) (⟨_, op_geqI rfl (hd 0 rfl) (hd 2 rfl), rfl⟩)) | 4, _, _ => exact aL (op_mv rfl (hd 3 rfl)) | 5, _, _ => exact aG (hd 4 rfl) (op_mv rfl (hs 2 rfl)) | 6, _, _ => exact aG (hd 4 rfl) (op_mv rfl (hs 10 rfl)) | 7, _, _ => exact aG (hd 4 rfl) (op_run rfl (op_idxVN hkn rfl (hd 5 rfl) (hd 6 rfl) _) rfl) | 8, _, _ => exact aG (hd 4 rfl) (op_ldvVN rfl rfl (hd 7 rfl) ((HRM.out.to (bel_then HB.out hb)).at_ (at_nthM hkn))) | 9, _, _ => exact aG (hd 4 rfl) (op_ldN rfl rfl (hs 12 rfl) ((HE.out.to hb).get 0 rfl)) | 10, _, _ => exact aG (hd 4 rfl) ⟨_, op_neqN_ne heq rfl (hd 8 rfl) (hd 9 rfl), rfl⟩ | 11, _, _ => exact aL ⟨_, op_pickF rfl (hd 4 rfl) (hd 10 rfl), rfl⟩ | qi + 12, h, _ => omega
     intro vs X4 hb hv hal hne; replace HB := Hd.mk (bel_then HB.out hb); replace HE := Hd.mk (HE.out.to hb); have HML := Hd.mk HM.out.lt; replace HM := Hd.mk (HM.out.to hb); have HOL := Hd.mk HO.out.lt; replace HO := Hd.mk (HO.out.to hb); have e84 : vs 84 = .bool true := hv 11 (by decide) rfl; simp only [PA, e84]; clear hv hal hne hb e84 HML HOL; go_upto_region 17 with fail
     refine wp_region_vd 0 [] [] [] 63 [.int .i64 0, .int .i64 0] [] (by rfl) alloc_Z ?_ ?_
     ·intro qi qh qA aa wx hb hs hd
      match qi, qh, qA with
      | qi + 0, h, _ => omega
     intro vs X5 hb hv hal hne; replace HB := Hd.mk (bel_then HB.out hb); replace HE := Hd.mk (HE.out.to hb); have HML := Hd.mk HM.out.lt; replace HM := Hd.mk (HM.out.to hb); have HOL := Hd.mk HO.out.lt; replace HO := Hd.mk (HO.out.to hb); simp only [PA]; clear hv hal hne hb HML HOL; go_wp2_with fail
     go_ret
     exact ⟨_, rfl, HB.out, by rw [(rGB_no (fun hg => by have h := metL_at HJX.out HMX.out hg; rw [HKK.out, at_nthM hkn] at h; exact heq (Option.some.inj h)))]; rfl⟩
    go_upto_region 16 with fail
    refine wp_region_vg 12 [73, 74, 75, 76, 77, 78, 79, 80, 81, 82, 83, 84] [0, 1, 3, 4, 11] [] 63 [.int .i64 0, .int .i64 0] [qI ((kk : Nat) : Int), isV (.slice A ms.length k), qI ((ms.length : Nat) : Int), qT, qT, qU, qU, qU, qU, qU, qU, qT] (by kernel_rfl) (by kernel_rfl) (by kernel_rfl) (by rfl) alloc_Z (fun d v c a w h => by cases d <;> exact h) ?_ ?_
    ·intro qi qh qA aa wx hb hs hd
     match qi, qh, qA with
     | 0, _, _ => exact aL (op_mv rfl (hs 10 rfl)) | 1, _, _ => exact aL (op_mv rfl (hs 2 rfl)) | 2, _, _ => exact aL (op_lenvVN rfl rfl (hd 1 rfl)) | 3, _, _ => exact aL (pure_b (bool_eq (decide_eq_true (by omega))) (⟨_, op_geqI rfl (hd 0 rfl) (hd 2 rfl), rfl⟩)) | 4, _, _ => exact aL (op_mv rfl (hd 3 rfl)) | 5, _, _ => exact aS (hd 4 rfl) | 6, _, _ => exact aS (hd 4 rfl) | 7, _, _ => exact aS (hd 4 rfl) | 8, _, _ => exact aS (hd 4 rfl) | 9, _, _ => exact aS (hd 4 rfl) | 10, _, _ => exact aS (hd 4 rfl) | 11, _, _ => exact aL ⟨_, op_pickT rfl (hd 4 rfl) rfl, rfl⟩ | qi + 12, h, _ => omega
    intro vs X4 hb hv hal hne; replace HB := Hd.mk (bel_then HB.out hb); replace HE := Hd.mk (HE.out.to hb); have HML := Hd.mk HM.out.lt; replace HM := Hd.mk (HM.out.to hb); have HOL := Hd.mk HO.out.lt; replace HO := Hd.mk (HO.out.to hb); have e84 : vs 84 = .bool true := hv 11 (by decide) rfl; simp only [PA, e84]; clear hv hal hne hb e84 HML HOL; go_upto_region 17 with fail
    refine wp_region_vd 0 [] [] [] 63 [.int .i64 0, .int .i64 0] [] (by rfl) alloc_Z ?_ ?_
    ·intro qi qh qA aa wx hb hs hd
     match qi, qh, qA with
     | qi + 0, h, _ => omega
    intro vs X5 hb hv hal hne; replace HB := Hd.mk (bel_then HB.out hb); replace HE := Hd.mk (HE.out.to hb); have HML := Hd.mk HM.out.lt; replace HM := Hd.mk (HM.out.to hb); have HOL := Hd.mk HO.out.lt; replace HO := Hd.mk (HO.out.to hb); simp only [PA]; clear hv hal hne hb HML HOL; go_wp2_with fail
    go_ret
    exact ⟨_, rfl, HB.out, by rw [(rGB_no (fun hg => by have h := metL_at HJX.out HMX.out hg; rw [HKK.out, List.getElem?_eq_none (by omega)] at h; cases h))]; rfl⟩
   have e2 : j = (mvs1 Wn Hn 2).length := by omega
   have HFL : Hd (ms.take (metL Wn Hn ms j).length = (mvs1 Wn Hn 2).filter fun x => memB x ms) := ⟨by rw [← metL_all, ← e2]; exact HMT.out⟩; generalize hkk : (metL Wn Hn ms j).length = kk at *; clear hkk; go_upto_region 20 with fail
   refine wp_region_vd 3 [88, 89, 90] [0, 2] [] 63 [.int .i64 0, .int .i64 0] [isV (.slice A ms.length k), qI ((ms.length : Nat) : Int), qI 0] (by rfl) alloc_Z ?_ ?_
   ·intro qi qh qA aa wx hb hs hd
    match qi, qh, qA with
    | 0, _, _ => exact aL (op_mv rfl (hs 2 rfl)) | 1, _, _ => exact aL (op_lenvVN rfl rfl (hd 0 rfl)) | 2, _, _ => exact aL (op_mv rfl rfl) | qi + 3, h, _ => omega
   intro vs X1 hb hv hal hne; replace HB := Hd.mk (bel_then HB.out hb); replace HE := Hd.mk (HE.out.to hb); have HML := Hd.mk HM.out.lt; replace HM := Hd.mk (HM.out.to hb); have e88 : vs 88 = .slice A ms.length k := hv 0 (by decide) rfl; have e89 : vs 89 = .int .i64 (((ms.length : Nat) : Int)) := hv 1 (by decide) rfl; have e90 : vs 90 = .int .i64 0 := hv 2 (by decide) rfl; simp only [PA, e88, e89, e90]; clear hv hal hne hb e88 e89 e90 HML; go_wp2_with fail
   go_loopw [90] (fun s90 wr => ∃ i : Nat, i ≤ ms.length ∧ s90 = .int .i64 i ∧ (BB wr gI bs ∧ Below w.heap.size w wr) ∧ ∀ a b, a < i → b < ms.length → memB (aftM Wn Hn (nthM ms a) (nthM ms b)) ms = true) (fun s90 _ => ms.length - (intOf s90).toNat)
   case atStart => exact ⟨0, Nat.zero_le _, rfl, ⟨HM.out, HB.out⟩, fun a b ha => by omega⟩
   case round =>
    obtain ⟨i, hil, rfl, ⟨hbb, hb⟩, hcl⟩ := hrel; have HCL := Hd.mk hcl; clear HB HE HM HO hcl; have HB := Hd.mk hb; have HM := Hd.mk hbb; have HE : Hd (Env wr []) := ⟨trivial⟩; clear hb hbb; by_cases hi : i < ms.length
    ·obtain ⟨ad, rfl⟩ := HRM.out.some_ (at_nthM hi); go_upto_region 22 with fail
     refine wp_region_vd 3 [92, 93, 14] [] [2] 56 [.int .i64 0, .int .i64 0, .int .i64 0, .bool false] [isV (.pointer (some (ad.add (i * 4)))), isV (.agg #[.int .i64 ((nthM ms i).x), .int .i64 ((nthM ms i).y), .int .i64 ((nthM ms i).t), .bool ((nthM ms i).f)]), SP.any] (by rfl) alloc_N ?_ ?_
     ·intro qi qh qA aa wx hb hs hd
      match qi, qh, qA with
      | 0, _, _ => exact aL (op_run rfl (op_idxVN hi rfl (hs 88 rfl) (hs 90 rfl) _) rfl) | 1, _, _ => exact aL (op_ldvVN rfl rfl (hd 0 rfl) ((HRM.out.to (bel_then HB.out hb)).at_ (at_nthM hi))) | 2, _, h => cases h | qi + 3, h, _ => omega
     intro vs X1 hb hv hal hne; have HL0 := Hd.mk (HE.out.lt); have HBW := HB; replace HB := Hd.mk (bel_then HB.out hb); replace HE := Hd.mk (HE.out.to hb); have HML := Hd.mk HM.out.lt; replace HM := Hd.mk (HM.out.to hb); have e93 : vs 93 = .agg #[.int .i64 ((nthM ms i).x), .int .i64 ((nthM ms i).y), .int .i64 ((nthM ms i).t), .bool ((nthM ms i).f)] := hv 1 (by decide) rfl; obtain ⟨g14, e14, l14, b14⟩ : ∃ g, vs 14 = .pointer (some ⟨g, 0, none⟩) ∧ _ := hal 2 rfl; replace HE : Hd (Env X1 [⟨g14, 56, [.int .i64 0, .int .i64 0, .int .i64 0, .bool false]⟩]) := ⟨Env.addne (e := ⟨g14, 56, [.int .i64 0, .int .i64 0, .int .i64 0, .bool false]⟩) HE.out b14 (fun e' he => Nat.ne_of_lt (Nat.lt_of_lt_of_le (HL0.out e' he) l14))⟩; have HMG14 : Hd (gI < g14) := ⟨Nat.lt_of_lt_of_le HML.out l14⟩; have G14 : Hd (w.heap.size ≤ g14) := ⟨Nat.le_trans HBW.out.size l14⟩; simp only [PA, e93, e14]; clear hv hal hne hb HL0 HBW e93 e14 l14 b14 HML; refine wpList_st rfl rfl rfl rfl rfl (sto_N (HE.out.get 0 rfl)) ?_; have HE' : Env (putL X1 g14 0 [.int .i64 ((nthM ms i).x), .int .i64 ((nthM ms i).y), .int .i64 ((nthM ms i).t), .bool ((nthM ms i).f)]) [⟨g14, 56, [.int .i64 ((nthM ms i).x), .int .i64 ((nthM ms i).y), .int .i64 ((nthM ms i).t), .bool ((nthM ms i).f)]⟩] := HE.out.putF 0 rfl rfl; have HB' := putL_below (show w.heap.size ≤ g14 from G14.out) [.int .i64 ((nthM ms i).x), .int .i64 ((nthM ms i).y), .int .i64 ((nthM ms i).t), .bool ((nthM ms i).f)] _ 0 HB.out; replace HM := Hd.mk (HM.out.put (vs := [.int .i64 ((nthM ms i).x), .int .i64 ((nthM ms i).y), .int .i64 ((nthM ms i).t), .bool ((nthM ms i).f)]) (o := 0) HMG14.out); generalize putL X1 g14 0 [.int .i64 ((nthM ms i).x), .int .i64 ((nthM ms i).y), .int .i64 ((nthM ms i).t), .bool ((nthM ms i).f)] = X2 at *; replace HE := Hd.mk HE'; replace HB := Hd.mk HB'; clear HE' HB'; go_upto_region 23 with fail
     refine wp_region_vd 3 [94, 95, 96] [0, 2] [] 63 [.int .i64 0, .int .i64 0] [isV (.slice (some ad) ms.length k), qI ((ms.length : Nat) : Int), qI 0] (by rfl) alloc_Z ?_ ?_
     ·intro qi qh qA aa wx hb hs hd
      match qi, qh, qA with
      | 0, _, _ => exact aL (op_mv rfl (hs 2 rfl)) | 1, _, _ => exact aL (op_lenvVN rfl rfl (hd 0 rfl)) | 2, _, _ => exact aL (op_mv rfl rfl) | qi + 3, h, _ => omega
     intro vs X3 hb hv hal hne; replace HB := Hd.mk (bel_then HB.out hb); replace HE := Hd.mk (HE.out.to hb); have HML := Hd.mk HM.out.lt; replace HM := Hd.mk (HM.out.to hb); have e94 : vs 94 = .slice (some ad) ms.length k := hv 0 (by decide) rfl; have e95 : vs 95 = .int .i64 (((ms.length : Nat) : Int)) := hv 1 (by decide) rfl; have e96 : vs 96 = .int .i64 0 := hv 2 (by decide) rfl; simp only [PA, e94, e95, e96]; clear hv hal hne hb e94 e95 e96 HML; go_wp2_with fail
     go_loopw [96] (fun s96 wr => ∃ j : Nat, j ≤ ms.length ∧ s96 = .int .i64 j ∧ (Env wr [⟨g14, 56, [.int .i64 ((nthM ms i).x), .int .i64 ((nthM ms i).y), .int .i64 ((nthM ms i).t), .bool ((nthM ms i).f)]⟩] ∧ BB wr gI bs ∧ Below w.heap.size w wr) ∧ ∀ b, b < j → memB (aftM Wn Hn (nthM ms i) (nthM ms b)) ms = true) (fun s96 _ => ms.length - (intOf s96).toNat)
     case atStart => exact ⟨0, Nat.zero_le _, rfl, ⟨HE.out, HM.out, HB.out⟩, fun b hb => by omega⟩
     case round =>
      obtain ⟨j, hjl2, rfl, ⟨he, hbb, hb⟩, hrow⟩ := hrel; have HROW := Hd.mk hrow; clear HB HE HM hrow; have HB := Hd.mk hb; have HM := Hd.mk hbb; have HE : Hd (Env wr [⟨g14, 56, [.int .i64 ((nthM ms i).x), .int .i64 ((nthM ms i).y), .int .i64 ((nthM ms i).t), .bool ((nthM ms i).f)]⟩]) := ⟨he⟩; clear he hb hbb; by_cases hj : j < ms.length
      ·have HNA := Hd.mk (aft_al (HALL.out i hi) (HALL.out j hj)); have hnl := num_lt HNA.out; go_upto_region 25 with fail
       refine wp_region_vd 3 [98, 99, 16] [] [2] 56 [.int .i64 0, .int .i64 0, .int .i64 0, .bool false] [isV (.pointer (some (ad.add (j * 4)))), isV (.agg #[.int .i64 ((nthM ms j).x), .int .i64 ((nthM ms j).y), .int .i64 ((nthM ms j).t), .bool ((nthM ms j).f)]), SP.any] (by rfl) alloc_N ?_ ?_
       ·intro qi qh qA aa wx hb hs hd
        match qi, qh, qA with
        | 0, _, _ => exact aL (op_run rfl (op_idxVN hj rfl (hs 94 rfl) (hs 96 rfl) _) rfl) | 1, _, _ => exact aL (op_ldvVN rfl rfl (hd 0 rfl) ((HRM.out.to (bel_then HB.out hb)).at_ (at_nthM hj))) | 2, _, h => cases h | qi + 3, h, _ => omega
       intro vs X1 hb hv hal hne; have HL0 := Hd.mk (HE.out.lt); have HBW := HB; replace HB := Hd.mk (bel_then HB.out hb); replace HE := Hd.mk (HE.out.to hb); have HML := Hd.mk HM.out.lt; replace HM := Hd.mk (HM.out.to hb); have e99 : vs 99 = .agg #[.int .i64 ((nthM ms j).x), .int .i64 ((nthM ms j).y), .int .i64 ((nthM ms j).t), .bool ((nthM ms j).f)] := hv 1 (by decide) rfl; obtain ⟨g16, e16, l16, b16⟩ : ∃ g, vs 16 = .pointer (some ⟨g, 0, none⟩) ∧ _ := hal 2 rfl; replace HE : Hd (Env X1 [⟨g14, 56, [.int .i64 ((nthM ms i).x), .int .i64 ((nthM ms i).y), .int .i64 ((nthM ms i).t), .bool ((nthM ms i).f)]⟩, ⟨g16, 56, [.int .i64 0, .int .i64 0, .int .i64 0, .bool false]⟩]) := ⟨Env.addne (e := ⟨g16, 56, [.int .i64 0, .int .i64 0, .int .i64 0, .bool false]⟩) HE.out b16 (fun e' he => Nat.ne_of_lt (Nat.lt_of_lt_of_le (HL0.out e' he) l16))⟩; have HMG16 : Hd (gI < g16) := ⟨Nat.lt_of_lt_of_le HML.out l16⟩; have G16 : Hd (w.heap.size ≤ g16) := ⟨Nat.le_trans HBW.out.size l16⟩; simp only [PA, e99, e16]; clear hv hal hne hb HL0 HBW e99 e16 l16 b16 HML; refine wpList_st rfl rfl rfl rfl rfl (sto_N (HE.out.get 1 rfl)) ?_; have HE' : Env (putL X1 g16 0 [.int .i64 ((nthM ms j).x), .int .i64 ((nthM ms j).y), .int .i64 ((nthM ms j).t), .bool ((nthM ms j).f)]) [⟨g14, 56, [.int .i64 ((nthM ms i).x), .int .i64 ((nthM ms i).y), .int .i64 ((nthM ms i).t), .bool ((nthM ms i).f)]⟩, ⟨g16, 56, [.int .i64 ((nthM ms j).x), .int .i64 ((nthM ms j).y), .int .i64 ((nthM ms j).t), .bool ((nthM ms j).f)]⟩] := HE.out.putF 1 rfl rfl; have HB' := putL_below (show w.heap.size ≤ g16 from G16.out) [.int .i64 ((nthM ms j).x), .int .i64 ((nthM ms j).y), .int .i64 ((nthM ms j).t), .bool ((nthM ms j).f)] _ 0 HB.out; replace HM := Hd.mk (HM.out.put (vs := [.int .i64 ((nthM ms j).x), .int .i64 ((nthM ms j).y), .int .i64 ((nthM ms j).t), .bool ((nthM ms j).f)]) (o := 0) HMG16.out); generalize putL X1 g16 0 [.int .i64 ((nthM ms j).x), .int .i64 ((nthM ms j).y), .int .i64 ((nthM ms j).t), .bool ((nthM ms j).f)] = X2 at *; replace HE := Hd.mk HE'; replace HB := Hd.mk HB'; clear HE' HB'; cases hin2 : memB (aftM Wn Hn (nthM ms i) (nthM ms j)) ms
       ·have HI2 := Hd.mk hin2; clear hin2; go_upto_region 26 with fail
        refine wp_region_vd 12 [100, 101, 102, 103, 104, 105, 106, 107, 108, 109, 110, 111] [0, 1, 2, 3, 4, 11] [] 63 [.int .i64 0, .int .i64 0] [isV (.slice (some ⟨gI, 0, none⟩) ((8 * ((Wn : Nat) : Int) * ((Hn : Nat) : Int)).toNat) ((8 * ((Wn : Nat) : Int) * ((Hn : Nat) : Int)).toNat)), qI ((Wn : Nat) : Int), qI ((Hn : Nat) : Int), qI ((Wn : Nat) : Int), qI ((Hn : Nat) : Int), isV (.agg #[.int .i64 ((nthM ms i).x), .int .i64 ((nthM ms i).y), .int .i64 ((nthM ms i).t), .bool ((nthM ms i).f)]), isV (.agg #[.int .i64 ((nthM ms j).x), .int .i64 ((nthM ms j).y), .int .i64 ((nthM ms j).t), .bool ((nthM ms j).f)]), isV (.agg #[.int .i64 ((aftM Wn Hn (nthM ms i) (nthM ms j)).x), .int .i64 ((aftM Wn Hn (nthM ms i) (nthM ms j)).y), .int .i64 ((aftM Wn Hn (nthM ms i) (nthM ms j)).t), .bool ((aftM Wn Hn (nthM ms i) (nthM ms j)).f)]), qI (numM Wn Hn (aftM Wn Hn (nthM ms i) (nthM ms j))), isV (.pointer (some (⟨gI, (numM Wn Hn (aftM Wn Hn (nthM ms i) (nthM ms j))).toNat, none⟩))), qF, qT] (by rfl) alloc_Z ?_ ?_
        ·intro qi qh qA aa wx hb hs hd
         match qi, qh, qA with
         | 0, _, _ => exact aL (op_mv rfl (hs 7 rfl)) | 1, _, _ => exact aL (op_mv rfl (hs 0 rfl)) | 2, _, _ => exact aL (op_mv rfl (hs 1 rfl)) | 3, _, _ => exact aL (op_mv rfl (hs 0 rfl)) | 4, _, _ => exact aL (op_mv rfl (hs 1 rfl)) | 5, _, _ => exact aL (op_ldN rfl rfl (hs 14 rfl) ((HE.out.to hb).get 0 rfl)) | 6, _, _ => exact aL (op_ldN rfl rfl (hs 16 rfl) ((HE.out.to hb).get 1 rfl)) | 7, _, _ => exact aL (op_call4 rfl rfl Tryz.call37 (by rw [(show aa.eval (.tmp 103) = .int .i64 (((Wn : Nat) : Int)) from (hd 3 rfl)), (show aa.eval (.tmp 104) = .int .i64 (((Hn : Nat) : Int)) from (hd 4 rfl)), (show aa.eval (.tmp 105) = .agg #[.int .i64 ((nthM ms i).x), .int .i64 ((nthM ms i).y), .int .i64 ((nthM ms i).t), .bool ((nthM ms i).f)] from (hd 5 rfl)), (show aa.eval (.tmp 106) = .agg #[.int .i64 ((nthM ms j).x), .int .i64 ((nthM ms j).y), .int .i64 ((nthM ms j).t), .bool ((nthM ms j).f)] from (hd 6 rfl))]; exact rAfter_got (HALL.out i hi) (HALL.out j hj) _)) | 8, _, _ => exact aL (op_call3 rfl rfl Tryz.call35 (by rw [(show aa.eval (.tmp 101) = .int .i64 (((Wn : Nat) : Int)) from (hd 1 rfl)), (show aa.eval (.tmp 102) = .int .i64 (((Hn : Nat) : Int)) from (hd 2 rfl)), (show aa.eval (.tmp 107) = .agg #[.int .i64 ((aftM Wn Hn (nthM ms i) (nthM ms j)).x), .int .i64 ((aftM Wn Hn (nthM ms i) (nthM ms j)).y), .int .i64 ((aftM Wn Hn (nthM ms i) (nthM ms j)).t), .bool ((aftM Wn Hn (nthM ms i) (nthM ms j)).f)] from (hd 7 rfl))]; exact number_got Wn Hn (aftM Wn Hn (nthM ms i) (nthM ms j)) HNA.out _)) | 9, _, _ => exact aL (op_run rfl (op_idxB (by omega) (by omega) rfl (hd 0 rfl) (hd 8 rfl) _) rfl) | 10, _, _ => exact aL (wp_b (bool_eq HI2.out) (wp_b (bool_eq (HIN.out.2 _ HNA.out)) (op_ldB rfl rfl (hd 9 rfl) ((HM.out.to hb).cell (by rw [HIN.out.1]; omega))))) | 11, _, _ => exact aL ⟨_, op_not rfl (hd 10 rfl), rfl⟩ | qi + 12, h, _ => omega
        intro vs X3 hb hv hal hne; replace HB := Hd.mk (bel_then HB.out hb); replace HE := Hd.mk (HE.out.to hb); have HML := Hd.mk HM.out.lt; replace HM := Hd.mk (HM.out.to hb); have e111 : vs 111 = .bool true := hv 11 (by decide) rfl; simp only [PA, e111]; clear hv hal hne hb e111 HML; go_upto_region 27 with fail
        refine wp_region_vd 0 [] [] [] 63 [.int .i64 0, .int .i64 0] [] (by rfl) alloc_Z ?_ ?_
        ·intro qi qh qA aa wx hb hs hd
         match qi, qh, qA with
         | qi + 0, h, _ => omega
        intro vs X4 hb hv hal hne; replace HB := Hd.mk (bel_then HB.out hb); replace HE := Hd.mk (HE.out.to hb); have HML := Hd.mk HM.out.lt; replace HM := Hd.mk (HM.out.to hb); simp only [PA]; clear hv hal hne hb HML; go_wp2_with fail
        go_ret
        exact ⟨_, rfl, HB.out, by rw [(rGB_no (fun hg => by have h := hg.clo i j hi hj; rw [HI2.out] at h; cases h))]; rfl⟩
       have HI2 := Hd.mk hin2; clear hin2; go_upto_region 26 with fail
       refine wp_region_vd 12 [100, 101, 102, 103, 104, 105, 106, 107, 108, 109, 110, 111] [0, 1, 2, 3, 4, 11] [] 63 [.int .i64 0, .int .i64 0] [isV (.slice (some ⟨gI, 0, none⟩) ((8 * ((Wn : Nat) : Int) * ((Hn : Nat) : Int)).toNat) ((8 * ((Wn : Nat) : Int) * ((Hn : Nat) : Int)).toNat)), qI ((Wn : Nat) : Int), qI ((Hn : Nat) : Int), qI ((Wn : Nat) : Int), qI ((Hn : Nat) : Int), isV (.agg #[.int .i64 ((nthM ms i).x), .int .i64 ((nthM ms i).y), .int .i64 ((nthM ms i).t), .bool ((nthM ms i).f)]), isV (.agg #[.int .i64 ((nthM ms j).x), .int .i64 ((nthM ms j).y), .int .i64 ((nthM ms j).t), .bool ((nthM ms j).f)]), isV (.agg #[.int .i64 ((aftM Wn Hn (nthM ms i) (nthM ms j)).x), .int .i64 ((aftM Wn Hn (nthM ms i) (nthM ms j)).y), .int .i64 ((aftM Wn Hn (nthM ms i) (nthM ms j)).t), .bool ((aftM Wn Hn (nthM ms i) (nthM ms j)).f)]), qI (numM Wn Hn (aftM Wn Hn (nthM ms i) (nthM ms j))), isV (.pointer (some (⟨gI, (numM Wn Hn (aftM Wn Hn (nthM ms i) (nthM ms j))).toNat, none⟩))), qT, qF] (by rfl) alloc_Z ?_ ?_
       ·intro qi qh qA aa wx hb hs hd
        match qi, qh, qA with
        | 0, _, _ => exact aL (op_mv rfl (hs 7 rfl)) | 1, _, _ => exact aL (op_mv rfl (hs 0 rfl)) | 2, _, _ => exact aL (op_mv rfl (hs 1 rfl)) | 3, _, _ => exact aL (op_mv rfl (hs 0 rfl)) | 4, _, _ => exact aL (op_mv rfl (hs 1 rfl)) | 5, _, _ => exact aL (op_ldN rfl rfl (hs 14 rfl) ((HE.out.to hb).get 0 rfl)) | 6, _, _ => exact aL (op_ldN rfl rfl (hs 16 rfl) ((HE.out.to hb).get 1 rfl)) | 7, _, _ => exact aL (op_call4 rfl rfl Tryz.call37 (by rw [(show aa.eval (.tmp 103) = .int .i64 (((Wn : Nat) : Int)) from (hd 3 rfl)), (show aa.eval (.tmp 104) = .int .i64 (((Hn : Nat) : Int)) from (hd 4 rfl)), (show aa.eval (.tmp 105) = .agg #[.int .i64 ((nthM ms i).x), .int .i64 ((nthM ms i).y), .int .i64 ((nthM ms i).t), .bool ((nthM ms i).f)] from (hd 5 rfl)), (show aa.eval (.tmp 106) = .agg #[.int .i64 ((nthM ms j).x), .int .i64 ((nthM ms j).y), .int .i64 ((nthM ms j).t), .bool ((nthM ms j).f)] from (hd 6 rfl))]; exact rAfter_got (HALL.out i hi) (HALL.out j hj) _)) | 8, _, _ => exact aL (op_call3 rfl rfl Tryz.call35 (by rw [(show aa.eval (.tmp 101) = .int .i64 (((Wn : Nat) : Int)) from (hd 1 rfl)), (show aa.eval (.tmp 102) = .int .i64 (((Hn : Nat) : Int)) from (hd 2 rfl)), (show aa.eval (.tmp 107) = .agg #[.int .i64 ((aftM Wn Hn (nthM ms i) (nthM ms j)).x), .int .i64 ((aftM Wn Hn (nthM ms i) (nthM ms j)).y), .int .i64 ((aftM Wn Hn (nthM ms i) (nthM ms j)).t), .bool ((aftM Wn Hn (nthM ms i) (nthM ms j)).f)] from (hd 7 rfl))]; exact number_got Wn Hn (aftM Wn Hn (nthM ms i) (nthM ms j)) HNA.out _)) | 9, _, _ => exact aL (op_run rfl (op_idxB (by omega) (by omega) rfl (hd 0 rfl) (hd 8 rfl) _) rfl) | 10, _, _ => exact aL (wp_b (bool_eq HI2.out) (wp_b (bool_eq (HIN.out.2 _ HNA.out)) (op_ldB rfl rfl (hd 9 rfl) ((HM.out.to hb).cell (by rw [HIN.out.1]; omega))))) | 11, _, _ => exact aL ⟨_, op_not rfl (hd 10 rfl), rfl⟩ | qi + 12, h, _ => omega
       intro vs X3 hb hv hal hne; replace HB := Hd.mk (bel_then HB.out hb); replace HE := Hd.mk (HE.out.to hb); have HML := Hd.mk HM.out.lt; replace HM := Hd.mk (HM.out.to hb); have e111 : vs 111 = .bool false := hv 11 (by decide) rfl; simp only [PA, e111]; clear hv hal hne hb e111 HML; go_wp2_with fail
       go_roundw
       case rel => exact ⟨j + 1, by omega, by go_num, ⟨Env.front (L := [⟨g14, 56, [.int .i64 ((nthM ms i).x), .int .i64 ((nthM ms i).y), .int .i64 ((nthM ms i).t), .bool ((nthM ms i).f)]⟩]) HE.out, HM.out, HB.out⟩, fun b hb => by
        by_cases e : b = j
        ·rw [e]; exact HI2.out
        exact HROW.out b (by omega)⟩
       case measure => simp [intOf]; omega
      have e3 : j = ms.length := by omega
      go_wp2_with fail
      go_roundw
      case rel => exact ⟨i + 1, by omega, by go_num, ⟨HM.out, HB.out⟩, fun a b ha hb => by
       by_cases e : a = i
       ·rw [e]; exact HROW.out b (by omega)
       exact HCL.out a b (by omega) hb⟩
      case measure => simp [intOf]; omega
    have HCA : Hd (∀ a b, a < ms.length → b < ms.length → memB (aftM Wn Hn (nthM ms a) (nthM ms b)) ms = true) := ⟨fun a b ha hb => HCL.out a b (by omega) hb⟩; have HNA : Hd (Al Wn Hn ⟨0, 0, 0, false⟩) := ⟨HZ0.out⟩; have hnl := num_lt HNA.out; have hn0 : numM Wn Hn ⟨0, 0, 0, false⟩ = 0 := by simp [numM]
    have HN0 := Hd.mk hn0; by_cases hkn : kk = ms.length
    ·cases hmz : memB ⟨0, 0, 0, false⟩ ms
     ·have HMZ := Hd.mk hmz; clear hmz; go_upto_region 30 with fail
      refine wp_region_vd 9 [114, 115, 116, 117, 118, 119, 120, 121, 122] [0, 1, 3, 4, 5, 8] [] 63 [.int .i64 0, .int .i64 0] [qI ((kk : Nat) : Int), isV (.slice A ms.length k), qI ((ms.length : Nat) : Int), qT, qT, isV (.slice (some ⟨gI, 0, none⟩) ((8 * ((Wn : Nat) : Int) * ((Hn : Nat) : Int)).toNat) ((8 * ((Wn : Nat) : Int) * ((Hn : Nat) : Int)).toNat)), isV (.pointer (some (⟨gI, (numM Wn Hn ⟨0, 0, 0, false⟩).toNat, none⟩))), qF, qF] (by rfl) alloc_Z ?_ ?_
      ·intro qi qh qA aa wx hb hs hd
       match qi, qh, qA with
       | 0, _, _ => exact aL (op_mv rfl (hs 10 rfl)) | 1, _, _ => exact aL (op_mv rfl (hs 2 rfl)) | 2, _, _ => exact aL (op_lenvVN rfl rfl (hd 1 rfl)) | 3, _, _ => exact aL (pure_b (bool_eq (decide_eq_true (by omega))) (⟨_, op_eqlI rfl (hd 0 rfl) (hd 2 rfl), rfl⟩)) | 4, _, _ => exact aL (op_mv rfl (hd 3 rfl)) | 5, _, _ => exact aG (hd 4 rfl) (op_mv rfl (hs 7 rfl)) | 6, _, _ => exact aG (hd 4 rfl) (op_run rfl (by have h := HN0.out; exact op_idxB (i := numM Wn Hn ⟨0, 0, 0, false⟩) (by omega) (by omega) rfl (hd 5 rfl) (by rw [h]; rfl) _) rfl) | 7, _, _ => exact aG (hd 4 rfl) (wp_b (bool_eq HMZ.out) (wp_b (bool_eq (HIN.out.2 _ HNA.out)) (op_ldB rfl rfl (hd 6 rfl) ((HM.out.to hb).cell (by rw [HIN.out.1]; omega))))) | 8, _, _ => exact aL ⟨_, op_pickT rfl (hd 4 rfl) (hd 7 rfl), rfl⟩ | qi + 9, h, _ => omega
      intro vs X1 hb hv hal hne; replace HB := Hd.mk (bel_then HB.out hb); replace HE := Hd.mk (HE.out.to hb); have HML := Hd.mk HM.out.lt; replace HM := Hd.mk (HM.out.to hb); have e122 : vs 122 = .bool false := hv 8 (by decide) rfl; simp only [PA, e122]; clear hv hal hne hb e122 HML; go_wp2_with fail
      go_ret
      exact ⟨_, rfl, HB.out, by rw [(rGB_no (fun hg => by have h := hg.zero; rw [HMZ.out] at h; cases h))]; rfl⟩
     have HMZ := Hd.mk hmz; clear hmz; go_upto_region 30 with fail
     refine wp_region_vd 9 [114, 115, 116, 117, 118, 119, 120, 121, 122] [0, 1, 3, 4, 5, 8] [] 63 [.int .i64 0, .int .i64 0] [qI ((kk : Nat) : Int), isV (.slice A ms.length k), qI ((ms.length : Nat) : Int), qT, qT, isV (.slice (some ⟨gI, 0, none⟩) ((8 * ((Wn : Nat) : Int) * ((Hn : Nat) : Int)).toNat) ((8 * ((Wn : Nat) : Int) * ((Hn : Nat) : Int)).toNat)), isV (.pointer (some (⟨gI, (numM Wn Hn ⟨0, 0, 0, false⟩).toNat, none⟩))), qT, qT] (by rfl) alloc_Z ?_ ?_
     ·intro qi qh qA aa wx hb hs hd
      match qi, qh, qA with
      | 0, _, _ => exact aL (op_mv rfl (hs 10 rfl)) | 1, _, _ => exact aL (op_mv rfl (hs 2 rfl)) | 2, _, _ => exact aL (op_lenvVN rfl rfl (hd 1 rfl)) | 3, _, _ => exact aL (pure_b (bool_eq (decide_eq_true (by omega))) (⟨_, op_eqlI rfl (hd 0 rfl) (hd 2 rfl), rfl⟩)) | 4, _, _ => exact aL (op_mv rfl (hd 3 rfl)) | 5, _, _ => exact aG (hd 4 rfl) (op_mv rfl (hs 7 rfl)) | 6, _, _ => exact aG (hd 4 rfl) (op_run rfl (by have h := HN0.out; exact op_idxB (i := numM Wn Hn ⟨0, 0, 0, false⟩) (by omega) (by omega) rfl (hd 5 rfl) (by rw [h]; rfl) _) rfl) | 7, _, _ => exact aG (hd 4 rfl) (wp_b (bool_eq HMZ.out) (wp_b (bool_eq (HIN.out.2 _ HNA.out)) (op_ldB rfl rfl (hd 6 rfl) ((HM.out.to hb).cell (by rw [HIN.out.1]; omega))))) | 8, _, _ => exact aL ⟨_, op_pickT rfl (hd 4 rfl) (hd 7 rfl), rfl⟩ | qi + 9, h, _ => omega
     intro vs X1 hb hv hal hne; replace HB := Hd.mk (bel_then HB.out hb); replace HE := Hd.mk (HE.out.to hb); have HML := Hd.mk HM.out.lt; replace HM := Hd.mk (HM.out.to hb); have e122 : vs 122 = .bool true := hv 8 (by decide) rfl; simp only [PA, e122]; clear hv hal hne hb e122 HML; go_wp2_with fail
     go_ret
     exact ⟨_, rfl, HB.out, by rw [(rGB_yes ⟨HONE.out, HFEW.out, HFIT.out, by have h := HFL.out; rw [hkn, List.take_length] at h; exact h, HCA.out, HMZ.out⟩)]; rfl⟩
    go_upto_region 30 with fail
    refine wp_region_vd 9 [114, 115, 116, 117, 118, 119, 120, 121, 122] [0, 1, 3, 4, 8] [] 63 [.int .i64 0, .int .i64 0] [qI ((kk : Nat) : Int), isV (.slice A ms.length k), qI ((ms.length : Nat) : Int), qF, qF, qU, qU, qU, qF] (by rfl) alloc_Z ?_ ?_
    ·intro qi qh qA aa wx hb hs hd
     match qi, qh, qA with
     | 0, _, _ => exact aL (op_mv rfl (hs 10 rfl)) | 1, _, _ => exact aL (op_mv rfl (hs 2 rfl)) | 2, _, _ => exact aL (op_lenvVN rfl rfl (hd 1 rfl)) | 3, _, _ => exact aL (pure_b (bool_eq (decide_eq_false (by omega))) (⟨_, op_eqlI rfl (hd 0 rfl) (hd 2 rfl), rfl⟩)) | 4, _, _ => exact aL (op_mv rfl (hd 3 rfl)) | 5, _, _ => exact aS (hd 4 rfl) | 6, _, _ => exact aS (hd 4 rfl) | 7, _, _ => exact aS (hd 4 rfl) | 8, _, _ => exact aL ⟨_, op_pickF rfl (hd 4 rfl) rfl, rfl⟩ | qi + 9, h, _ => omega
    intro vs X1 hb hv hal hne; replace HB := Hd.mk (bel_then HB.out hb); replace HE := Hd.mk (HE.out.to hb); have HML := Hd.mk HM.out.lt; replace HM := Hd.mk (HM.out.to hb); have e122 : vs 122 = .bool false := hv 8 (by decide) rfl; simp only [PA, e122]; clear hv hal hne hb e122 HML
    have HNO : ¬ RG Wn Hn ms := fun hg => by
     have h := hg.ord; rw [← HFL.out] at h; have h2 := congrArg List.length h; rw [List.length_take] at h2; omega
    go_wp2_with fail
    go_ret
    exact ⟨_, rfl, HB.out, by rw [(rGB_no HNO)]; rfl⟩
end Go.Proofs.YtddbmckbankmeaaGreat
