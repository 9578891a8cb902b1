/- Part 7 of the texts behind this claim. -/
import Derived.Laws.StructEq
import Derived.Test.YtddbmckbankmeaaGreatKb6
set_option linter.unusedVariables false
set_option linter.unusedSimpArgs false
namespace Go.Proofs.YtddbmckbankmeaaGreat
open Go.RowKit
section
variable {P : Program} {Q : Exit → Act → World → Prop} {ops : Array Oper} {rest : List Oper} {o : Oper} {a : Act} {w : World} {v : Value}
theorem wpList_run (hg : o.guard = none) (hr : (execOp a.eval o).run P w = .ok (.value v) w) (h : wpList P ops Q rest (a.put o.dst v) w) : wpList P ops Q (o :: rest) a w := by
 unfold wpList; rw [if_pos (by simp [Region.wanted, hg])]; refine .inl ?_; unfold Oper.wp; rw [hr]; exact h
end
section
variable {Q : Exit → Act → World → Prop} {o : Oper} {a : Act} {w : World} {d : Nat} {x y : Operand} {b1 : Int} {c : Bool} {n1 n2 : Int}
theorem op_buM0 (ho : o.op = .build 65 #[(0, x)]) (h0 : a.eval x = .int .i64 b1) (w : World) : (execOp a.eval o).run Tryz.prog w = .ok (.value (.agg #[.int .i64 b1, .int .i64 0, .int .i64 0, .bool false])) w := by
 generalize a.eval = ev at h0 ⊢; unfold execOp; simp only [ho]; simp [go_sem, h0]
theorem op_lit2 (ho : o.op = .buildSlice 41 2 #[(0, .const (.int .i64 n1)), (1, .const (.int .i64 n2))]) (hd : o.dst = some d) (lo : Nat) (hl : lo ≤ w.heap.size) : o.wp Tryz.prog a w (Post a w d (isF lo [n1, n2]).p) Q := by
 have hr : (execOp a.eval o).run Tryz.prog w = .ok (.value (.slice (some ⟨w.heap.size, 0, none⟩) 2 2)) (w.alloc (.cells #[.int .i64 n1, .int .i64 n2] 3)) := by
  have h1 : a.eval (.const (.int .i64 n1)) = .int .i64 n1 := rfl; have h2 : a.eval (.const (.int .i64 n2)) = .int .i64 n2 := rfl; generalize a.eval = ev at h1 h2 ⊢; unfold execOp; simp only [ho]; simp [go_sem, h1, h2]
 unfold Oper.wp; rw [hr]; show Post a w d _ (a.put o.dst _) _; rw [hd]; have hB : Blk (w.alloc (.cells #[.int .i64 n1, .int .i64 n2] 3)) w.heap.size 3 [.int .i64 n1, .int .i64 n2] := heap_alloc_new _ _; exact ⟨_, rfl, below_alloc (Below.refl _ _) _, w.heap.size, 2, [], rfl, hl, Nat.le_refl _, by omega, by simpa [ints] using hB⟩
end
theorem valid_some {w : World} {A : Option Addr} {xs : List Int} {W H : Int} (hr : RI w A xs) (h : validB W H xs = true) : ∃ ad, A = some ad := by
 unfold validB at h; simp only [Bool.and_eq_true, decide_eq_true_eq] at h; obtain ⟨hw, hh⟩ := sizeB_bounds h.1; have h1 : 1 * 1 ≤ W * H := Int.mul_le_mul hw.1 hh.1 (by omega) (by omega); obtain ⟨ad, e, _⟩ := hr.at_ (k := 0) (by omega); exact ⟨ad, e⟩
theorem valid_len {xs : List Int} {W H : Int} (h : validB W H xs = true) : (xs.length : Int) = W * H := by
 unfold validB at h; simp only [Bool.and_eq_true, decide_eq_true_eq] at h; exact h.2.1
theorem valid_size {xs : List Int} {W H : Int} (h : validB W H xs = true) : sizeB W H = true := by
 unfold validB at h; simp only [Bool.and_eq_true] at h; exact h.1
def ivt (t : Int) (f : Bool) : Int := if f = true then t else (4 - t) % 4
def ivp (x y t : Int) (f : Bool) : Int × Int := trn f (-x) (-y) (ivt t f).toNat
set_option maxRecDepth 100000 in
set_option maxHeartbeats 1000000 in
theorem Apply_ad (Wd Ht x y t : Int) (f : Bool) (ad : Addr) (k : Nat) (xs : List Int) (w : World) (hri : RI w (some ad) xs) (hv : validB Wd Ht xs = true) (hm : alB Wd Ht x y t = true) :
  Calls Tryz.prog 39 #[.agg #[.int .i64 x, .int .i64 y, .int .i64 t, .bool f], .agg #[.int .i64 Wd, .int .i64 Ht, .slice (some ad) xs.length k]] w (Got w (isP (isFS w.heap.size Wd Ht (apL Wd Ht x y t f xs)) (isV (.int .i64 0))).p) := by
 have HRI := Hd.mk hri; have HV := Hd.mk hv; have HM := Hd.mk hm; have HK := Hd.mk (okm (valid_size hv) hm); have HLN := Hd.mk (valid_len hv); clear hri hv hm; go_enter Tryz.func39, Tryz.ntmps39
 go_upto_region 1 with fail
 obtain ⟨W0, hW0⟩ : ∃ W : World, W = ((w.alloc (.cells #[.int .i64 x, .int .i64 y, .int .i64 t, .bool f] 65)).alloc (.cells #[.int .i64 Wd, .int .i64 Ht, .slice (some ad) xs.length k] 43)).alloc (.cells #[.int .i64 0, .int .i64 0, .slice none 0 0] 43) := ⟨_, rfl⟩; rw [← hW0]; obtain ⟨he, hb⟩ := env_three hW0; have HE := Hd.mk he; have HB := Hd.mk hb; clear he hb hW0; refine wp_region_vg 10 [6, 7, 8, 9, 10, 11, 12, 13, 14, 15] [2, 3, 8, 9] [] 63 [.int .i64 0, .int .i64 0] [isV (.agg #[.int .i64 Wd, .int .i64 Ht, .slice (some ad) xs.length k]), qT, qF, qF, isV (.agg #[.int .i64 Wd, .int .i64 Ht, .slice (some ad) xs.length k]), isV (.agg #[.int .i64 Wd, .int .i64 Ht]), isV (.agg #[.int .i64 x, .int .i64 y, .int .i64 t, .bool f]), qT, qF, qF] (by kernel_rfl) (by kernel_rfl) (by kernel_rfl) (by rfl) alloc_Z (fun d v c a w h => by cases d <;> exact h) ?_ ?_
 ·intro qi qh qA aa wx hb hs hd
  match qi, qh, qA with
  | 0, _, _ => exact aL (op_ldT rfl rfl (hs 3 rfl) ((HE.out.to hb).get 1 rfl)) | 1, _, _ => exact aL (wp_b (bool_eq HV.out) (op_call1 rfl rfl Tryz.call75 (by rw [(show aa.eval (.tmp 6) = .agg #[.int .i64 Wd, .int .i64 Ht, .slice (some ad) xs.length k] from (hd 0 rfl))]; exact Valid_got Wd Ht (some ad) k xs _ (HRI.out.to (bel_then HB.out hb))))) | 2, _, _ => exact aL ⟨_, op_not rfl (hd 1 rfl), rfl⟩ | 3, _, _ => exact aL (op_mv rfl (hd 2 rfl)) | 4, _, _ => exact aG (hd 3 rfl) (op_ldT rfl rfl (hs 3 rfl) ((HE.out.to hb).get 1 rfl)) | 5, _, _ => exact aG (hd 3 rfl) (op_call1 rfl rfl Tryz.call76 (by rw [(show aa.eval (.tmp 10) = .agg #[.int .i64 Wd, .int .i64 Ht, .slice (some ad) xs.length k] from (hd 4 rfl))]; exact size_got Wd Ht (some ad) xs.length k _)) | 6, _, _ => exact aG (hd 3 rfl) (op_ldM rfl rfl (hs 2 rfl) ((HE.out.to hb).get 0 rfl)) | 7, _, _ => exact aG (hd 3 rfl) (wp_b (bool_eq HM.out) (op_call2 rfl rfl Tryz.call52 (by rw [(show aa.eval (.tmp 11) = .agg #[.int .i64 Wd, .int .i64 Ht] from (hd 5 rfl)), (show aa.eval (.tmp 12) = .agg #[.int .i64 x, .int .i64 y, .int .i64 t, .bool f] from (hd 6 rfl))]; exact allows_got Wd Ht x y t f _))) | 8, _, _ => exact aG (hd 3 rfl) ⟨_, op_not rfl (hd 7 rfl), rfl⟩ | 9, _, _ => exact aL ⟨_, op_pickF rfl (hd 3 rfl) (hd 8 rfl), rfl⟩ | qi + 10, h, _ => omega
 intro vs X1 hb hv hal hne; replace HB := Hd.mk (bel_then HB.out hb); replace HE := Hd.mk (HE.out.to hb); have e15 : vs 15 = .bool false := hv 9 (by decide) rfl; simp only [PA, e15]; clear hv hal hne hb e15; go_upto_region 3 with fail
 have HWS := Hd.mk HB.out.size; refine wp_region_vs 5 [17, 18, 19, 20, 21] [] [] 63 [.int .i64 0, .int .i64 0] [isV (.agg #[.int .i64 Wd, .int .i64 Ht, .slice (some ad) xs.length k]), isV (.agg #[.int .i64 Wd, .int .i64 Ht]), isV (.agg #[.int .i64 x, .int .i64 y, .int .i64 t, .bool f]), isV (.agg #[.int .i64 Wd, .int .i64 Ht, .slice (some ad) xs.length k]), isFS X1.heap.size Wd Ht (apL Wd Ht x y t f xs)] (by kernel_rfl) (by kernel_rfl) (by kernel_rfl) (by rfl) alloc_Z (fun d v c a w h => by cases d <;> exact h) ?_ ?_
 ·intro qi qh qA aa wx hb hs hd
  match qi, qh, qA with
  | 0, _, _ => exact op_ldT rfl rfl (hs 3 rfl) ((HE.out.to hb).get 1 rfl) | 1, _, _ => exact op_call1 rfl rfl Tryz.call76 (by rw [(show aa.eval (.tmp 17) = .agg #[.int .i64 Wd, .int .i64 Ht, .slice (some ad) xs.length k] from (hd 0 rfl))]; exact size_got Wd Ht (some ad) xs.length k _) | 2, _, _ => exact op_ldM rfl rfl (hs 2 rfl) ((HE.out.to hb).get 0 rfl) | 3, _, _ => exact op_ldT rfl rfl (hs 3 rfl) ((HE.out.to hb).get 1 rfl) | 4, _, _ => exact op_call3 rfl rfl Tryz.call33 (by rw [(show aa.eval (.tmp 18) = .agg #[.int .i64 Wd, .int .i64 Ht] from (hd 1 rfl)), (show aa.eval (.tmp 19) = .agg #[.int .i64 x, .int .i64 y, .int .i64 t, .bool f] from (hd 2 rfl)), (show aa.eval (.tmp 20) = .agg #[.int .i64 Wd, .int .i64 Ht, .slice (some ad) xs.length k] from (hd 3 rfl))]; exact got_fs hb.size (apply_got Wd Ht x y t f ad k xs _ (HRI.out.to (bel_then HB.out hb)) HK.out HLN.out)) | qi + 5, h, _ => omega
 intro vs X2 hb hv hal hne; have HL0 := Hd.mk (HE.out.lt); have HBW := HB; replace HB := Hd.mk (bel_then HB.out hb); replace HE := Hd.mk (HE.out.to hb); have t21 : (isFS X1.heap.size Wd Ht (apL Wd Ht x y t f xs)).p (vs 21) X2 := hv 4 (by decide) rfl; obtain ⟨g21, k21, rest21, e21, l21, m21, n21, b21⟩ := t21; replace HE : Hd (Env X2 [⟨w.heap.size, 65, [.int .i64 x, .int .i64 y, .int .i64 t, .bool f]⟩, ⟨w.heap.size + 1, 43, [.int .i64 Wd, .int .i64 Ht, .slice (some ad) xs.length k]⟩, ⟨w.heap.size + 1 + 1, 43, [.int .i64 0, .int .i64 0, .slice none 0 0]⟩, ⟨g21, 3, ints (apL Wd Ht x y t f xs) ++ rest21⟩]) := ⟨Env.addne (e := ⟨g21, 3, ints (apL Wd Ht x y t f xs) ++ rest21⟩) HE.out b21 (fun e' he => Nat.ne_of_lt (Nat.lt_of_lt_of_le (HL0.out e' he) l21))⟩; have G21 : Hd (w.heap.size ≤ g21) := ⟨Nat.le_trans HBW.out.size l21⟩; simp only [PA, e21]; clear hv hal hne hb HL0 HBW e21 l21 b21; refine wpList_st rfl rfl rfl rfl rfl (sto_T (HE.out.get 2 rfl)) ?_; have HE' : Env (putL X2 (w.heap.size + 1 + 1) 0 [.int .i64 Wd, .int .i64 Ht, .slice (some ⟨g21, 0, none⟩) ((apL Wd Ht x y t f xs).length) k21]) [⟨w.heap.size, 65, [.int .i64 x, .int .i64 y, .int .i64 t, .bool f]⟩, ⟨w.heap.size + 1, 43, [.int .i64 Wd, .int .i64 Ht, .slice (some ad) xs.length k]⟩, ⟨w.heap.size + 1 + 1, 43, [.int .i64 Wd, .int .i64 Ht, .slice (some ⟨g21, 0, none⟩) ((apL Wd Ht x y t f xs).length) k21]⟩, ⟨g21, 3, ints (apL Wd Ht x y t f xs) ++ rest21⟩] := HE.out.putF 2 rfl rfl; have HB' := putL_below (show w.heap.size ≤ w.heap.size + 1 + 1 from by omega) [.int .i64 Wd, .int .i64 Ht, .slice (some ⟨g21, 0, none⟩) ((apL Wd Ht x y t f xs).length) k21] _ 0 HB.out; generalize putL X2 (w.heap.size + 1 + 1) 0 [.int .i64 Wd, .int .i64 Ht, .slice (some ⟨g21, 0, none⟩) ((apL Wd Ht x y t f xs).length) k21] = X3 at *; replace HE := Hd.mk HE'; replace HB := Hd.mk HB'; clear HE' HB'; go_wp2_with fail
 have k0a := HE.out.cell 2 0 rfl rfl; have k0b := HE.out.cell 2 1 rfl rfl; have k0c := HE.out.cell 2 2 rfl rfl; refine bodyPost_ret (v := .tuple #[.agg #[.int .i64 Wd, .int .i64 Ht, .slice (some ⟨g21, 0, none⟩) ((apL Wd Ht x y t f xs).length) k21], .int .i64 0]) (by simp [results, Tryz.results39, go_sem, k0a, k0b, k0c]) rfl ?_; exact ⟨_, rfl, HB.out, _, _, rfl, ⟨g21, k21, rest21, rfl, G21.out, m21, n21, HE.out.get 3 rfl⟩, rfl⟩
def rdS (W H : Int) (xs : List Int) : SP := ⟨fun v w => ∃ A k, v = .agg #[.int .i64 W, .int .i64 H, .slice A xs.length k] ∧ RI w A xs, fun v w w' ⟨A, k, h1, h2⟩ hb => ⟨A, k, h1, h2.to hb⟩⟩
section
variable {w : World} {v v1 v2 : Value} {W H W' H' x y t : Int} {f : Bool} {xs ys : List Int} {lo : Nat} {A : Option Addr} {k n : Nat}
theorem rd_fs (h : (isFS lo W H xs).p v w) : (rdS W H xs).p v w := let ⟨g, k, rest, h1, _, _, _, hb⟩ := h; ⟨_, _, h1, hb.ri⟩
theorem rd_ex (h : v = .agg #[.int .i64 W, .int .i64 H, .slice A xs.length k]) (hr : RI w A xs) : (rdS W H xs).p v w := ⟨A, k, h, hr⟩
theorem same_rd (W H : Int) (xs : List Int) (W' H' : Int) (ys : List Int) (hl1 : xs.length ≤ 1000000) (hl2 : ys.length ≤ 1000000) (v1 v2 : Value) (w : World) (h1 : (rdS W H xs).p v1 w) (h2 : (rdS W' H' ys).p v2 w) :
  Calls Tryz.prog 14 #[v1, v2] w (Got w (isV (.bool (decide (W = W') && decide (H = H') && decide (xs = ys)))).p) := by
 obtain ⟨A, k, rfl, r1⟩ := h1; obtain ⟨A', k', rfl, r2⟩ := h2; exact stsame_got W H A k xs W' H' A' k' ys w r1 r2 hl1 hl2
theorem same_yes (W H : Int) (xs : List Int) (hl1 : xs.length ≤ 1000000) (v1 v2 : Value) (w : World) (h1 : (rdS W H xs).p v1 w) (h2 : (rdS W H xs).p v2 w) : Calls Tryz.prog 14 #[v1, v2] w (Got w (isV (.bool true)).p) := by
 have h := same_rd W H xs W H xs hl1 hl1 v1 v2 w h1 h2; simp only [decide_true, Bool.and_self] at h; exact h
theorem Apply_rd (W H x y t : Int) (f : Bool) (xs : List Int) (hv : validB W H xs = true) (hm : alB W H x y t = true) (v2 : Value) (w : World) (h2 : (rdS W H xs).p v2 w) :
  Calls Tryz.prog 39 #[.agg #[.int .i64 x, .int .i64 y, .int .i64 t, .bool f], v2] w (Got w (isP (isFS w.heap.size W H (apL W H x y t f xs)) (isV (.int .i64 0))).p) := by
 obtain ⟨A, k, rfl, r⟩ := h2; obtain ⟨ad, rfl⟩ := valid_some r hv; exact Apply_ad W H x y t f ad k xs w r hv hm
end
theorem apL_aw : apL 2 1 1 0 0 false [0, 1] = [1, 0] := by decide
theorem valid_aw : validB 2 1 [0, 1] = true := by decide
theorem al_aw : alB 2 1 1 0 0 = true := by decide
set_option maxRecDepth 100000 in
set_option maxHeartbeats 1000000 in
theorem awake_got (w : World) :
  Calls Tryz.prog 10 #[] w (Got w (isV (.bool true)).p) := by
 go_enter Tryz.func10, Tryz.ntmps10
 go_upto_region 1 with fail
 have HE : Hd (Env w []) := ⟨trivial⟩; have HB : Hd (Below w.heap.size w w) := ⟨Below.refl _ _⟩; refine wp_region_vd 8 [4, 5, 6, 7, 3, 8, 9, 1] [0, 2, 4, 5, 6] [7] 43 [.int .i64 0, .int .i64 0, .slice none 0 0] [isV (.agg #[.int .i64 1, .int .i64 0, .int .i64 0, .bool false]), isF w.heap.size ([0, 1]), isFS w.heap.size 2 1 ([0, 1]), isP (isFS w.heap.size 2 1 (apL 2 1 1 0 0 false ([0, 1]))) (qI 0), isP (isFS w.heap.size 2 1 (apL 2 1 1 0 0 false ([0, 1]))) (qI 0), isFS w.heap.size 2 1 (apL 2 1 1 0 0 false ([0, 1])), qI 0, SP.any] (by rfl) alloc_T ?_ ?_
 ·intro qi qh qA aa wx hb hs hd
  match qi, qh, qA with
  | 0, _, _ => exact aL ⟨_, op_buM0 rfl rfl, rfl⟩ | 1, _, _ => exact aL (op_lit2 rfl rfl w.heap.size hb.size) | 2, _, _ => exact aL (op_buTF rfl rfl rfl (hd 1 rfl)) | 3, _, _ => exact aL (op_call2 rfl rfl Tryz.call39 (by rw [show aa.eval (.tmp 4) = .agg #[.int .i64 1, .int .i64 0, .int .i64 0, .bool false] from (hd 0 rfl)]; exact got_fsp hb.size (Apply_rd 2 1 1 0 0 false ([0, 1]) valid_aw al_aw _ _ (rd_fs (hd 2 rfl))))) | 4, _, _ => exact aL (op_mv rfl (hd 3 rfl)) | 5, _, _ => exact aL (op_fst rfl (hd 4 rfl)) | 6, _, _ => exact aL (op_snd rfl (hd 4 rfl)) | 7, _, h => cases h | qi + 8, h, _ => omega
 intro vs X1 hb hv hal hne; have HL0 := Hd.mk (HE.out.lt); have HBW := HB; replace HB := Hd.mk (bel_then HB.out hb); replace HE := Hd.mk (HE.out.to hb); have t8 : (isFS w.heap.size 2 1 (apL 2 1 1 0 0 false ([0, 1]))).p (vs 8) X1 := hv 5 (by decide) rfl; obtain ⟨g8, k8, rest8, e8, l8, m8, n8, b8⟩ := t8; replace HE : Hd (Env X1 [⟨g8, 3, ints (apL 2 1 1 0 0 false ([0, 1])) ++ rest8⟩]) := ⟨Env.addne (e := ⟨g8, 3, ints (apL 2 1 1 0 0 false ([0, 1])) ++ rest8⟩) HE.out b8 (fun e' he => Nat.ne_of_lt (Nat.lt_of_lt_of_le (HL0.out e' he) l8))⟩; have G8 : Hd (w.heap.size ≤ g8) := ⟨Nat.le_trans HBW.out.size l8⟩; have e9 : vs 9 = .int .i64 0 := hv 6 (by decide) rfl; obtain ⟨g1, e1, l1, b1⟩ : ∃ g, vs 1 = .pointer (some ⟨g, 0, none⟩) ∧ _ := hal 7 rfl; replace HE : Hd (Env X1 [⟨g8, 3, ints (apL 2 1 1 0 0 false ([0, 1])) ++ rest8⟩, ⟨g1, 43, [.int .i64 0, .int .i64 0, .slice none 0 0]⟩]) := ⟨Env.addne (e := ⟨g1, 43, [.int .i64 0, .int .i64 0, .slice none 0 0]⟩) HE.out b1 (fun e' he => (List.mem_append.1 (show e' ∈ _ ++ [_] from he)).elim (fun he => Nat.ne_of_lt (Nat.lt_of_lt_of_le (HL0.out e' he) l1)) (fun he => by rw [List.mem_singleton.1 he]; exact blk_ne b8 b1 (by decide)))⟩; have G1 : Hd (w.heap.size ≤ g1) := ⟨Nat.le_trans HBW.out.size l1⟩; simp only [PA, e8, e9, e1]; clear hv hal hne hb HL0 HBW e8 e9 e1 l8 b8 l1 b1; refine wpList_st rfl rfl rfl rfl rfl (sto_T (HE.out.get 1 rfl)) ?_; have HE' : Env (putL X1 g1 0 [.int .i64 2, .int .i64 1, .slice (some ⟨g8, 0, none⟩) ((apL 2 1 1 0 0 false ([0, 1])).length) k8]) [⟨g8, 3, ints (apL 2 1 1 0 0 false ([0, 1])) ++ rest8⟩, ⟨g1, 43, [.int .i64 2, .int .i64 1, .slice (some ⟨g8, 0, none⟩) ((apL 2 1 1 0 0 false ([0, 1])).length) k8]⟩] := HE.out.putF 1 rfl rfl; have HB' := putL_below (show w.heap.size ≤ g1 from G1.out) [.int .i64 2, .int .i64 1, .slice (some ⟨g8, 0, none⟩) ((apL 2 1 1 0 0 false ([0, 1])).length) k8] _ 0 HB.out; generalize putL X1 g1 0 [.int .i64 2, .int .i64 1, .slice (some ⟨g8, 0, none⟩) ((apL 2 1 1 0 0 false ([0, 1])).length) k8] = X2 at *; replace HE := Hd.mk HE'; replace HB := Hd.mk HB'; clear HE' HB'; go_upto_region 2 with fail
 refine wp_region_vd 9 [10, 11, 12, 13, 14, 15, 16, 17, 18] [0, 1, 2, 6, 8] [] 63 [.int .i64 0, .int .i64 0] [qI 0, qT, qT, isV (.agg #[.int .i64 2, .int .i64 1, .slice (some ⟨g8, 0, none⟩) ((apL 2 1 1 0 0 false ([0, 1])).length) k8]), isV (.agg #[.int .i64 2, .int .i64 1, .slice (some ⟨g8, 0, none⟩) ((apL 2 1 1 0 0 false ([0, 1])).length) k8]), isF X2.heap.size ([1, 0]), isFS X2.heap.size 2 1 ([1, 0]), qT, qT] (by rfl) alloc_Z ?_ ?_
 ·intro qi qh qA aa wx hb hs hd
  match qi, qh, qA with
  | 0, _, _ => exact aL (op_mv rfl (hs 2 rfl)) | 1, _, _ => exact aL (pure_b (bool_eq (by decide)) (⟨_, op_eqlE rfl (hd 0 rfl) rfl, rfl⟩)) | 2, _, _ => exact aL (op_mv rfl (hd 1 rfl)) | 3, _, _ => exact aG (hd 2 rfl) (op_ldT rfl rfl (hs 1 rfl) ((HE.out.to hb).get 1 rfl)) | 4, _, _ => exact aG (hd 2 rfl) (op_call1 rfl rfl Tryz.call15 (by rw [(show aa.eval (.tmp 13) = .agg #[.int .i64 2, .int .i64 1, .slice (some ⟨g8, 0, none⟩) ((apL 2 1 1 0 0 false ([0, 1])).length) k8] from (hd 3 rfl))]; exact own_got 2 1 (some ⟨g8, 0, none⟩) ((apL 2 1 1 0 0 false ([0, 1])).length) k8 _)) | 5, _, _ => exact aG (hd 2 rfl) (op_lit2 rfl rfl X2.heap.size hb.size) | 6, _, _ => exact aG (hd 2 rfl) (op_buUF rfl rfl rfl (hd 5 rfl)) | 7, _, _ => exact aG (hd 2 rfl) (op_call2 rfl rfl Tryz.call14 (same_yes 2 1 [1, 0] (by decide) _ _ _ (by have h := (rd_ex (xs := apL 2 1 1 0 0 false ([0, 1])) (hd 4 rfl) ((HE.out.to hb).get 0 rfl).ri); rw [apL_aw] at h; exact h) (rd_fs (hd 6 rfl)))) | 8, _, _ => exact aL ⟨_, op_pickT rfl (hd 2 rfl) (hd 7 rfl), rfl⟩ | qi + 9, h, _ => omega
 intro vs X3 hb hv hal hne; replace HB := Hd.mk (bel_then HB.out hb); replace HE := Hd.mk (HE.out.to hb); have e18 : vs 18 = .bool true := hv 8 (by decide) rfl; simp only [PA, e18]; clear hv hal hne hb e18; go_wp2_with fail
 go_ret
 exact ⟨_, rfl, HB.out, rfl⟩
theorem trn_add (f : Bool) (x y x' y' : Int) : ∀ n, trn f (x + x') (y + y') n = ((trn f x y n).1 + (trn f x' y' n).1, (trn f x y n).2 + (trn f x' y' n).2)
 | 0 => by cases f <;> simp [trn] <;> omega
 | n + 1 => by
  simp only [trn, trn_add f x y x' y' n, rot]; congr 1
  omega
theorem trn_zero (f : Bool) : ∀ n, trn f 0 0 n = (0, 0)
 | 0 => by cases f <;> rfl
 | n + 1 => by simp [trn, trn_zero f n, rot]
theorem trn_comp (f1 f2 : Bool) (x y : Int) {n1 n2 : Nat} (h1 : n1 < 4) (h2 : n2 < 4) :
  trn f1 (trn f2 x y n2).1 (trn f2 x y n2).2 n1 = trn (f1 != f2) x y ((n1 + if f1 = true then 4 - n2 else n2) % 4) := by
 have a1 : n1 = 0 ∨ n1 = 1 ∨ n1 = 2 ∨ n1 = 3 := by omega
 have a2 : n2 = 0 ∨ n2 = 1 ∨ n2 = 2 ∨ n2 = 3 := by omega
 rcases a1 with rfl | rfl | rfl | rfl <;> rcases a2 with rfl | rfl | rfl | rfl <;> cases f1 <;> cases f2 <;> simp [trn, rot]
theorem neg_mod {a b m : Int} (h : a % m = b % m) : (-a) % m = (-b) % m := by
 have h2 := Int.emod_emod_of_dvd a (Int.dvd_refl m); exact (Int.emod_emod_of_dvd _ (Int.dvd_refl m)).symm.trans (by rw [Int.emod_emod_of_dvd _ (Int.dvd_refl m), Int.neg_emod_eq_sub_emod, Int.neg_emod_eq_sub_emod, Int.sub_emod, h, ← Int.sub_emod])
theorem trn_mod (f : Bool) {x y x' y' W H : Int} (hx : x % W = x' % W) (hy : y % H = y' % H) {n : Nat} (hn : n < 4) (hp : n % 2 = 0 ∨ W = H) :
  (trn f x y n).1 % W = (trn f x' y' n).1 % W ∧ (trn f x y n).2 % H = (trn f x' y' n).2 % H := by
 have nx := neg_mod hx; have ny := neg_mod hy; have a : n = 0 ∨ n = 1 ∨ n = 2 ∨ n = 3 := by omega
 rcases a with rfl | rfl | rfl | rfl
 ·cases f <;> simp [trn, hx, hy, nx]
 ·rcases hp with hp | rfl
  ·omega
  cases f <;> simp [trn, rot, hx, hy, nx, ny]
 ·cases f <;> simp [trn, rot, hx, hy, nx, ny]
 rcases hp with hp | rfl
 ·omega
 cases f <;> simp [trn, rot, hx, hy, nx, ny]
structure Mv where
 x : Int
 y : Int
 t : Int
 f : Bool
structure Al (W H : Int) (m : Mv) : Prop where
 w : 1 ≤ W ∧ W ≤ 8
 h : 1 ≤ H ∧ H ≤ 8
 x : 0 ≤ m.x ∧ m.x < W
 y : 0 ≤ m.y ∧ m.y < H
 t : 0 ≤ m.t ∧ m.t < 4
 p : m.t % 2 = 0 ∨ W = H
theorem al_of {W H x y t : Int} {f : Bool} (h1 : sizeB W H = true) (h2 : alB W H x y t = true) : Al W H ⟨x, y, t, f⟩ := by
 obtain ⟨a, b, c, d, e⟩ := okm h1 h2; unfold alB at h2; simp only [Bool.and_eq_true, decide_eq_true_eq, Bool.or_eq_true] at h2; exact ⟨a, b, c, d, e, h2.2⟩
theorem Al.al {W H : Int} {m : Mv} (h : Al W H m) : alB W H m.x m.y m.t = true := by
 obtain ⟨a, b, c, d, e, g⟩ := h; unfold alB; simp only [Bool.and_eq_true, decide_eq_true_eq, Bool.or_eq_true]; exact ⟨⟨⟨⟨⟨⟨c.1, c.2⟩, d.1⟩, d.2⟩, e.1⟩, e.2⟩, g⟩
def act (W H : Int) (m : Mv) (p : Int × Int) : Int × Int := (((trn m.f p.1 p.2 m.t.toNat).1 + m.x) % W, ((trn m.f p.1 p.2 m.t.toNat).2 + m.y) % H)
def aftM (W H : Int) (m n : Mv) : Mv := ⟨(act W H m (n.x, n.y)).1, (act W H m (n.x, n.y)).2, (m.t + if m.f = true then 4 - n.t else n.t) % 4, m.f != n.f⟩
def invM (W H : Int) (m : Mv) : Mv := ⟨(ivp m.x m.y m.t m.f).1 % W, (ivp m.x m.y m.t m.f).2 % H, ivt m.t m.f, m.f⟩
section
variable {W H : Int} {m n q : Mv}
theorem act_lt (h : Al W H m) (p : Int × Int) : (0 ≤ (act W H m p).1 ∧ (act W H m p).1 < W) ∧ 0 ≤ (act W H m p).2 ∧ (act W H m p).2 < H := by
 have hw := h.w; have hh := h.h; exact ⟨⟨Int.emod_nonneg _ (by omega), Int.emod_lt_of_pos _ (by omega)⟩, Int.emod_nonneg _ (by omega), Int.emod_lt_of_pos _ (by omega)⟩
theorem aft_al (h : Al W H m) (k : Al W H n) : Al W H (aftM W H m n) := by
 have hp := act_lt h (n.x, n.y); have h1 := h.t; have h2 := h.p; have k1 := k.t; have k2 := k.p; refine ⟨h.w, h.h, hp.1, hp.2, ?_, ?_⟩
 ·show 0 ≤ (_ : Int) % 4 ∧ (_ : Int) % 4 < 4; omega
 show (m.t + if m.f = true then 4 - n.t else n.t) % 4 % 2 = 0 ∨ _; cases m.f <;> simp <;> omega
theorem inv_al (h : Al W H m) : Al W H (invM W H m) := by
 have hw := h.w; have hh := h.h; have h1 := h.t; have h2 := h.p; refine ⟨hw, hh, ⟨Int.emod_nonneg _ (by omega), Int.emod_lt_of_pos _ (by omega)⟩, ⟨Int.emod_nonneg _ (by omega), Int.emod_lt_of_pos _ (by omega)⟩, ?_, ?_⟩
 ·show 0 ≤ ivt m.t m.f ∧ ivt m.t m.f < 4; unfold ivt; cases m.f <;> simp <;> omega
 show ivt m.t m.f % 2 = 0 ∨ _; unfold ivt; cases m.f <;> simp <;> omega
theorem turn_nat (h : Al W H m) (k : Al W H n) : (aftM W H m n).t.toNat = (m.t.toNat + if m.f = true then 4 - n.t.toNat else n.t.toNat) % 4 := by
 have h1 := h.t; have k1 := k.t; show ((m.t + if m.f = true then 4 - n.t else n.t) % 4).toNat = _; cases m.f <;> simp <;> omega
theorem mod_add {a b c W : Int} (h : a % W = b % W) : (a + c) % W = (b + c) % W := by rw [Int.add_emod, h, ← Int.add_emod]
theorem act_mod (h : Al W H m) {x y x' y' : Int} (hx : x % W = x' % W) (hy : y % H = y' % H) : act W H m (x, y) = act W H m (x', y') := by
 have h1 := h.t; have h2 := h.p; have e := trn_mod m.f hx hy (n := m.t.toNat) (by omega) (by omega); unfold act; simp only; rw [mod_add e.1, mod_add e.2]
theorem act_comp (h : Al W H m) (k : Al W H n) (p : Int × Int) : act W H (aftM W H m n) p = act W H m (act W H n p) := by
 have h1 := h.t; have k1 := k.t; have e1 : act W H m (act W H n p) = act W H m ((trn n.f p.1 p.2 n.t.toNat).1 + n.x, (trn n.f p.1 p.2 n.t.toNat).2 + n.y) := act_mod h (by simp [act]) (by simp [act]); rw [e1]; unfold act; simp only; rw [turn_nat h k, trn_add, trn_comp m.f n.f _ _ (by omega) (by omega)]; show ((_ + ((_ + m.x) % W)) % W, (_ + ((_ + m.y) % H)) % H) = _; simp only [Int.add_emod_emod, Int.add_assoc]; rfl
theorem aft_assoc (h : Al W H m) (k : Al W H n) (l : Al W H q) : aftM W H (aftM W H m n) q = aftM W H m (aftM W H n q) := by
 have h1 := h.t; have k1 := k.t; have l1 := l.t; have e := act_comp h k (q.x, q.y)
 have e3 : (aftM W H (aftM W H m n) q).t = (aftM W H m (aftM W H n q)).t := by
  show ((m.t + if m.f = true then 4 - n.t else n.t) % 4 + if (m.f != n.f) = true then 4 - q.t else q.t) % 4 = (m.t + if m.f = true then 4 - (n.t + if n.f = true then 4 - q.t else q.t) % 4 else (n.t + if n.f = true then 4 - q.t else q.t) % 4) % 4; cases m.f <;> cases n.f <;> simp <;> omega
 have e4 : (aftM W H (aftM W H m n) q).f = (aftM W H m (aftM W H n q)).f := by
  show ((m.f != n.f) != q.f) = (m.f != (n.f != q.f)); cases m.f <;> cases n.f <;> cases q.f <;> rfl
 have e5 : (act W H m ((aftM W H n q).x, (aftM W H n q).y)) = act W H m (act W H n (q.x, q.y)) := rfl; unfold aftM at e3 e4 e5 ⊢; simp only at e3 e4 e5 ⊢; rw [e3, e4]; congr 1
 ·exact congrArg Prod.fst e
 exact congrArg Prod.snd e
theorem inv_one (h : Al W H m) : aftM W H (invM W H m) m = ⟨0, 0, 0, false⟩ := by
 have h1 := h.t
 have hz : act W H (invM W H m) (m.x, m.y) = (0, 0) := by
  unfold act; show (((trn m.f m.x m.y (ivt m.t m.f).toNat).1 + (trn m.f (-m.x) (-m.y) (ivt m.t m.f).toNat).1 % W) % W, ((trn m.f m.x m.y (ivt m.t m.f).toNat).2 + (trn m.f (-m.x) (-m.y) (ivt m.t m.f).toNat).2 % H) % H) = _; have e := trn_add m.f m.x m.y (-m.x) (-m.y) (ivt m.t m.f).toNat; rw [Int.add_right_neg, Int.add_right_neg, trn_zero, Prod.mk.injEq] at e; rw [Int.add_emod_emod, Int.add_emod_emod, ← e.1, ← e.2]; simp
 have ht : ((invM W H m).t + if (invM W H m).f = true then 4 - m.t else m.t) % 4 = 0 := by
  show (ivt m.t m.f + if m.f = true then 4 - m.t else m.t) % 4 = 0; unfold ivt; cases m.f <;> simp <;> omega
 have hf : ((invM W H m).f != m.f) = false := by
  show (m.f != m.f) = false; cases m.f <;> rfl
 unfold aftM; rw [hz, ht, hf]
theorem inv_two (h : Al W H m) : aftM W H m (invM W H m) = ⟨0, 0, 0, false⟩ := by
 have h1 := h.t; have hi : 0 ≤ ivt m.t m.f ∧ ivt m.t m.f < 4 := (inv_al h).t
 have hz : act W H m ((invM W H m).x, (invM W H m).y) = (0, 0) := by
  have e1 : act W H m ((invM W H m).x, (invM W H m).y) = act W H m ((ivp m.x m.y m.t m.f).1, (ivp m.x m.y m.t m.f).2) := act_mod h (by simp [invM]) (by simp [invM]); rw [e1]
  have hk : (m.t.toNat + if m.f = true then 4 - (ivt m.t m.f).toNat else (ivt m.t m.f).toNat) % 4 = 0 := by
   unfold ivt at hi ⊢; cases m.f <;> simp at hi ⊢ <;> omega
  have e2 : trn m.f (ivp m.x m.y m.t m.f).1 (ivp m.x m.y m.t m.f).2 m.t.toNat = (-m.x, -m.y) := by
   unfold ivp; rw [trn_comp m.f m.f _ _ (by omega) (by omega), hk]; cases m.f <;> rfl
  unfold act; simp only; rw [e2]; simp [Int.add_left_neg]
 have ht : (m.t + if m.f = true then 4 - (invM W H m).t else (invM W H m).t) % 4 = 0 := by
  show (m.t + if m.f = true then 4 - ivt m.t m.f else ivt m.t m.f) % 4 = 0; unfold ivt; cases m.f <;> simp <;> omega
 have hf : (m.f != (invM W H m).f) = false := by
  show (m.f != m.f) = false; cases m.f <;> rfl
 unfold aftM; rw [hz, ht, hf]
def cellM (W H : Int) (m : Mv) (i : Int) : Int := toC W H m.x m.y m.t m.f i
theorem cell_act (i : Int) : cellM W H m i = (act W H m (i % W, i / W)).2 * W + (act W H m (i % W, i / W)).1 := rfl
theorem cell_lt (h : Al W H m) (i : Int) : 0 ≤ cellM W H m i ∧ cellM W H m i < W * H := toC_lt m.f ⟨h.w, h.h, h.x, h.y, h.t⟩
theorem split_mod {u v : Int} (hu : 0 ≤ u ∧ u < W) : (v * W + u) % W = u ∧ (v * W + u) / W = v := by
 refine ⟨?_, ?_⟩
 ·rw [Int.add_comm, Int.add_mul_emod_self_right, Int.emod_eq_of_lt hu.1 hu.2]
 rw [Int.add_comm, Int.add_mul_ediv_right _ _ (by omega), Int.ediv_eq_zero_of_lt hu.1 hu.2, Int.zero_add]
theorem cell_comp (h : Al W H m) (k : Al W H n) (i : Int) : cellM W H (aftM W H m n) i = cellM W H m (cellM W H n i) := by
 have hu := split_mod (v := (act W H n (i % W, i / W)).2) (act_lt k (i % W, i / W)).1; rw [cell_act, act_comp h k, cell_act (m := m), cell_act (m := n), hu.1, hu.2]
theorem cell_zero (h1 : 1 ≤ W) (h2 : 1 ≤ H) {i : Int} (hi : 0 ≤ i ∧ i < W * H) : cellM W H ⟨0, 0, 0, false⟩ i = i := by
 have a : i / W < H := Int.ediv_lt_of_lt_mul (by omega) (by rw [Int.mul_comm H W]; exact hi.2); have b : 0 ≤ i / W := Int.ediv_nonneg hi.1 (by omega); show (i / W + 0) % H * W + (i % W + 0) % W = i; rw [Int.add_zero, Int.add_zero, Int.emod_eq_of_lt b a, Int.emod_emod_of_dvd _ (Int.dvd_refl W)]; have := Int.mul_ediv_add_emod i W; rw [Int.mul_comm]; exact this
theorem inv_cell (h : Al W H m) {i : Int} (hi : 0 ≤ i ∧ i < W * H) : cellM W H (invM W H m) (cellM W H m i) = i := by
 rw [← cell_comp (inv_al h) h, inv_one h, cell_zero h.w.1 h.h.1 hi]
theorem cell_inv (h : Al W H m) {i : Int} (hi : 0 ≤ i ∧ i < W * H) : cellM W H m (cellM W H (invM W H m) i) = i := by
 rw [← cell_comp h (inv_al h), inv_two h, cell_zero h.w.1 h.h.1 hi]
end
def apM (W H : Int) (m : Mv) (xs : List Int) : List Int := apL W H m.x m.y m.t m.f xs
theorem apS_at (ft : Int → Int) (xs : List Int) : ∀ (k : Nat), (∀ j : Nat, j < k → 0 ≤ ft j ∧ ft j < xs.length) → (∀ i j : Nat, i < k → j < k → ft i = ft j → i = j) → ∀ j : Nat, j < k → (apS ft xs k).getD (ft j).toNat 0 = xs.getD j 0
 | 0, _, _ => fun j hj => by omega
 | k + 1, hr, hi => fun j hj => by
  have hk := hr k (by omega); have hj' := hr j hj; simp only [apS]; by_cases e : j = k
  ·subst e; rw [List.getD_eq_getElem?_getD, List.getElem?_set_self (by rw [apS_length]; omega)]; rfl
  have hne : (ft k).toNat ≠ (ft j).toNat := fun e2 => e (hi j k hj (by omega) (by omega))
  rw [List.getD_eq_getElem?_getD, List.getElem?_set_ne hne, ← List.getD_eq_getElem?_getD]; exact apS_at ft xs k (fun j hj => hr j (by omega)) (fun i j h1 h2 => hi i j (by omega) (by omega)) j (by omega)
theorem apM_length (W H : Int) (m : Mv) (xs : List Int) : (apM W H m xs).length = xs.length := apS_length _ _ _
theorem apM_at {W H : Int} {m : Mv} {xs : List Int} (h : Al W H m) (hl : (xs.length : Int) = W * H) {j : Int} (hj : 0 ≤ j ∧ j < W * H) : (apM W H m xs).getD (cellM W H m j).toNat 0 = xs.getD j.toNat 0 := by
 obtain ⟨J, rfl⟩ : ∃ J : Nat, j = J := ⟨j.toNat, by omega⟩; rw [Int.toNat_natCast]; refine apS_at (fun q => toC W H m.x m.y m.t m.f q) xs xs.length (fun j hj => by rw [hl]; exact cell_lt h j) (fun i j h1 h2 e => ?_) J (by omega); have e1 := inv_cell h (i := (i : Int)) (by omega); have e2 := inv_cell h (i := (j : Int)) (by omega); have e3 : cellM W H m (i : Int) = cellM W H m (j : Int) := e; rw [e3, e2] at e1; omega
theorem apM_comp {W H : Int} {m n : Mv} {xs : List Int} (h : Al W H m) (k : Al W H n) (hl : (xs.length : Int) = W * H) : apM W H m (apM W H n xs) = apM W H (aftM W H m n) xs := by
 have hq := aft_al h k
 have key : ∀ i : Nat, i < xs.length → (apM W H m (apM W H n xs)).getD i 0 = (apM W H (aftM W H m n) xs).getD i 0 := by
  intro i hi; have hi' : 0 ≤ (i : Int) ∧ (i : Int) < W * H := by omega
  have hj := cell_lt (inv_al hq) (i : Int); have e := cell_inv hq hi'; have e1 := apM_at hq hl hj; rw [e, Int.toNat_natCast] at e1; rw [e1]; have e2 := apM_at k hl hj; have e3 := apM_at (xs := apM W H n xs) h (by rw [apM_length]; exact hl) (cell_lt k (cellM W H (invM W H (aftM W H m n)) (i : Int))); rw [← cell_comp h k, e, Int.toNat_natCast] at e3; rw [e3, e2]
 apply List.ext_getElem
 ·rw [apM_length, apM_length, apM_length]
 intro i h1 h2; have h3 : i < xs.length := by rw [apM_length] at h2; exact h2
 have := key i h3; rw [List.getD_eq_getElem?_getD, List.getD_eq_getElem?_getD, List.getElem?_eq_getElem h1, List.getElem?_eq_getElem h2] at this; exact this
section
variable {o : Oper} {a : Act} {x y : Operand} {ty : TypeId} {i j t : Int} {f : Bool}
theorem op_neqN (ho : o.op = .binOp .neq 56 x y ty) (hx : a.eval x = .agg #[.int .i64 i, .int .i64 j, .int .i64 t, .bool f]) (hy : a.eval y = .agg #[.int .i64 i, .int .i64 j, .int .i64 t, .bool f]) (w : World) : (execOp a.eval o).run Tryz.prog w = .ok (.value (.bool false)) w := by
 generalize a.eval = ev at hx hy ⊢; unfold execOp; simp only [ho, hx, hy]; simp [go_sem]
end
section
variable {W H : Int} {m n : Mv} {xs : List Int}
theorem Al.size (h : Al W H m) : sizeB W H = true := by
 have h1 := h.w; have h2 := h.h; unfold sizeB; simp only [Bool.and_eq_true, decide_eq_true_eq]; exact ⟨h1, h2⟩
end
end Go.Proofs.YtddbmckbankmeaaGreat
