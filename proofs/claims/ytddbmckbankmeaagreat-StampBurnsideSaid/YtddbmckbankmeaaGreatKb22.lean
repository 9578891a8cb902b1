/- Part 22 of the texts behind this claim. -/
import Derived.Test.YtddbmckbankmeaaGreatKb21
set_option linter.unusedVariables false
set_option linter.unusedSimpArgs false
namespace Go.Proofs.YtddbmckbankmeaaGreat
open Go.RowKit
theorem mul_b {a b A B : Int} (ha : 0 ≤ a ∧ a ≤ A) (hb : 0 ≤ b ∧ b ≤ B) : 0 ≤ a * b ∧ a * b ≤ A * B :=
 ⟨Int.mul_nonneg ha.1 hb.1, Int.mul_le_mul ha.2 hb.2 hb.1 (by omega)⟩
def numM (W H : Int) (m : Mv) : Int := (m.t * W + m.x) * H + m.y + (if m.f = true then 4 * W * H else 0)
theorem num_digits {W H a b x y : Int} (hx : 0 ≤ x ∧ x < H) (hy : 0 ≤ y ∧ y < H) (h : a * H + x = b * H + y) : a = b ∧ x = y := by
 have e1 : (a * H + x) / H = a := by rw [Int.add_comm, Int.add_mul_ediv_right _ _ (by omega), Int.ediv_eq_zero_of_lt hx.1 hx.2, Int.zero_add]
 have e2 : (b * H + y) / H = b := by rw [Int.add_comm, Int.add_mul_ediv_right _ _ (by omega), Int.ediv_eq_zero_of_lt hy.1 hy.2, Int.zero_add]
 have : a = b := by rw [← e1, h, e2]
 subst this; exact ⟨rfl, by omega⟩
section
variable {W H : Int} {m n : Mv}
theorem num_low (h : Al W H m) : 0 ≤ (m.t * W + m.x) * H + m.y ∧ (m.t * W + m.x) * H + m.y < 4 * W * H := by
 have hw := h.w; have hh := h.h; have hx := h.x; have hy := h.y; have ht := h.t; have b1 := mul_b (a := m.t) (b := W) (A := 3) (B := W) (by omega) (by omega); have b2 := mul_b (a := m.t * W + m.x) (b := H) (A := 4 * W - 1) (B := H) (by omega) (by omega); rw [Int.sub_mul, Int.one_mul] at b2; omega
theorem num_lt (h : Al W H m) : 0 ≤ numM W H m ∧ numM W H m < 8 * W * H := by
 have h1 := num_low h; have e : 8 * W * H = 4 * W * H + 4 * W * H := by rw [← Int.add_mul, ← Int.add_mul]; rfl
 unfold numM; split <;> omega
theorem num_inj (h : Al W H m) (k : Al W H n) (e : numM W H m = numM W H n) : m = n := by
 have h1 := num_low h; have k1 := num_low k
 have hf : m.f = n.f := by
  unfold numM at e; cases hm : m.f <;> cases hn : n.f <;> simp [hm, hn] at e ⊢ <;> omega
 have e1 : (m.t * W + m.x) * H + m.y = (n.t * W + n.x) * H + n.y := by
  unfold numM at e; rw [hf] at e; omega
 have d1 := num_digits (W := W) h.y k.y e1; have d2 := num_digits (W := W) h.x k.x d1.1; obtain ⟨x, y, t, f⟩ := m; obtain ⟨x', y', t', f'⟩ := n; simp only at hf d1 d2; rw [d2.1, d2.2, d1.2, hf]
end
def bools (bs : List Bool) : List Value := bs.map .bool
section
variable {w w' : World} {g n k j : Nat} {bs : List Bool} {b : Bool} {lo : Nat}
theorem bools_at {j : Nat} (h : j < bs.length) : (bools bs)[j]? = some (.bool (bs.getD j false)) := by
 unfold bools; rw [List.getElem?_map, List.getElem?_eq_getElem h, List.getD_eq_getElem?_getD, List.getElem?_eq_getElem h]; rfl
def BB (w : World) (g : Nat) (bs : List Bool) : Prop := ∃ rest, Blk w g 4 (bools bs ++ rest)
theorem BB.to (h : BB w g bs) (hb : Below w.heap.size w w') : BB w' g bs := let ⟨r, h⟩ := h; ⟨r, h.to hb⟩
theorem BB.lt (h : BB w g bs) : g < w.heap.size := let ⟨r, h⟩ := h; Blk.lt h
theorem BB.cell (h : BB w g bs) (hj : j < bs.length) : w.cell? ⟨g, j, none⟩ = some (.bool (bs.getD j false)) := by
 obtain ⟨r, h⟩ := h; rw [h.cell j, List.getElem?_append_left (by unfold bools; rw [List.length_map]; exact hj), bools_at hj]
theorem BB.put {g' o : Nat} {vs : List Value} (h : BB w g bs) (hlt : g < g') : BB (putL w g' o vs) g bs := let ⟨r, h⟩ := h; ⟨r, putL_far vs w o h (Nat.ne_of_lt hlt)⟩
theorem BB.set (h : BB w g bs) (hj : j < bs.length) : BB (putL w g j [.bool b]) g (bs.set j b) := by
 obtain ⟨r, h⟩ := h; refine ⟨r, ?_⟩; have := putL_one (o := j) (v := .bool b) h; rwa [List.set_append_left _ _ (by unfold bools; rw [List.length_map]; exact hj), show (bools bs).set j (.bool b) = bools (bs.set j b) from by unfold bools; rw [List.map_set]] at this
end
section
variable {Q : Exit → Act → World → Prop} {o : Oper} {a : Act} {w : World} {d g n k : Nat} {i : Int} {x y : Operand} {bs : List Bool}
theorem op_idxB (h0 : 0 ≤ i) (h1 : i < (n : Int)) (ho : o.op = .indexAddr 78 x y) (hx : a.eval x = .slice (some ⟨g, 0, none⟩) n k) (hy : a.eval y = .int .i64 i) (w : World) : (execOp a.eval o).run Tryz.prog w = .ok (.value (.pointer (some ⟨g, i.toNat, none⟩))) w := by
 generalize a.eval = ev at hx hy ⊢; unfold execOp; simp only [ho, hx, hy]; have ha : ∀ q : Nat, (⟨g, 0, none⟩ : Addr).add q = ⟨g, q, none⟩ := fun q => by unfold Addr.add; split <;> simp_all
 simp [go_sem, h0, h1, ha]
def isBs (lo : Nat) (bs : List Bool) : SP := ⟨fun v w => ∃ g, v = .slice (some ⟨g, 0, none⟩) bs.length bs.length ∧ lo ≤ g ∧ BB w g bs, fun v w w' ⟨g, h1, h2, h3⟩ hb => ⟨g, h1, h2, h3.to hb⟩⟩
end
theorem Tryz.info_bool : (Tryz.prog.info? 4).map (fun i => (i.zero, i.size, i.bytes)) = some (some (.bool false), 1, 1) := by kernel_rfl
set_option maxRecDepth 100000 in
theorem make_bools (n : Nat) (hn : n ≤ 17592186044416) (w : World) :
  (Instr.makeSlice 78 (.int .i64 (n : Int)) (.int .i64 (n : Int))).run Tryz.prog w = .ok (.slice (some ⟨w.heap.size, 0, none⟩) n n) (w.alloc (.cells (bools (List.replicate n false)).toArray 4)) := by
 obtain ⟨i0, hi, hz0, hz1, hz2⟩ := info_parts Tryz.info_bool; have hb : (i0.bytes : Int) * (n : Int) ≤ 281474976710656 := by rw [hz2]; omega
 have hr := run_make (P := Tryz.prog) w 78 4 i0 (.bool false) (by kernel_rfl) hi hz0 .i64 .i64 n n (by omega) (by omega) hb (by omega); simp only [Int.toNat_natCast] at hr; rw [hr]; congr 3
 rw [show bools (List.replicate n false) = List.replicate n (Value.bool false) from by simp [bools], hz1]; apply Array.ext
 ·simp [madeCells]
 intro i h1 h2; simp [madeCells, Value.cells, Nat.mod_one]
section
variable {Q : Exit → Act → World → Prop} {o : Oper} {a : Act} {w : World} {d g n k j : Nat} {x y : Operand} {bs : List Bool} {b : Bool}
theorem op_makeB (hn : n ≤ 17592186044416) (ho : o.op = .makeSlice 78 x y) (hd : o.dst = some d) (hx : a.eval x = .int .i64 (n : Int)) (hy : a.eval y = .int .i64 (n : Int)) (lo : Nat) (hl : lo ≤ w.heap.size) : o.wp Tryz.prog a w (Post a w d (isBs lo (List.replicate n false)).p) Q := by
 have hr : (execOp a.eval o).run Tryz.prog w = .ok (.value (.slice (some ⟨w.heap.size, 0, none⟩) n n)) (w.alloc (.cells (bools (List.replicate n false)).toArray 4)) := by
  unfold execOp; simp only [ho, hx, hy, Sem.run_bind, make_bools n hn, Result.andThen_ok, Sem.run_pure]
 unfold Oper.wp; rw [hr]; show Post a w d _ (a.put o.dst _) _; rw [hd]; have hB : Blk (w.alloc (.cells (bools (List.replicate n false)).toArray 4)) w.heap.size 4 (bools (List.replicate n false)) := heap_alloc_new _ _; exact ⟨_, rfl, below_alloc (Below.refl _ _) _, w.heap.size, by simp, hl, [], by simpa using hB⟩
theorem sto_BB (h : BB w g bs) (hj : j < bs.length) : (Instr.storeAt 4 (.pointer (some ⟨g, j, none⟩)) (.bool b)).run Tryz.prog w = .ok () (putL w g j [.bool b]) := by
 obtain ⟨r, h⟩ := h; exact sto_B h (v := .bool (bs.getD j false)) (by rw [List.getElem?_append_left (by unfold bools; rw [List.length_map]; exact hj), bools_at hj])
end
set_option maxRecDepth 100000 in
set_option maxHeartbeats 1000000 in
theorem number_got (Wd Ht : Int) (m : Mv) (h : Al Wd Ht m) (w : World) :
  Calls Tryz.prog 35 #[.int .i64 Wd, .int .i64 Ht, .agg #[.int .i64 m.x, .int .i64 m.y, .int .i64 m.t, .bool m.f]] w (Got w (isV (.int .i64 (numM Wd Ht m))).p) := by
 have hw := h.w; have hh := h.h; have hx := h.x; have hy := h.y; have ht := h.t; have b1 := mul_b (a := m.t) (b := Wd) (A := 3) (B := 8) (by omega) (by omega); have b2 := mul_b (a := m.t * Wd + m.x) (b := Ht) (A := 31) (B := 8) (by omega) (by omega); have b3 := mul_b (a := 4 * Wd) (b := Ht) (A := 32) (B := 8) (by omega) (by omega); by_cases hf : m.f = true
 ·have e0 : numM Wd Ht m = (m.t * Wd + m.x) * Ht + m.y + 4 * Wd * Ht := by unfold numM; rw [if_pos hf]
  rw [e0]; have HF := Hd.mk hf; clear hf e0; go_enter Tryz.func35, Tryz.ntmps35
  go_upto_region 1 with fail
  obtain ⟨W0, hW0⟩ : ∃ W : World, W = w.alloc (.cells #[.int .i64 m.x, .int .i64 m.y, .int .i64 m.t, .bool m.f] 56) := ⟨_, rfl⟩; rw [← hW0]; obtain ⟨he, hb⟩ := env_one hW0; have HE := Hd.mk he; have HB := Hd.mk hb; clear he hb hW0; refine wp_region_vd 12 [8, 9, 10, 11, 12, 13, 14, 15, 16, 17, 18, 19] [0, 2, 3, 4, 6, 7, 8, 9, 11] [] 63 [.int .i64 0, .int .i64 0] [isV (.pointer (some ⟨w.heap.size, 2, none⟩)), qI m.t, qI Wd, qI (m.t * Wd), isV (.pointer (some ⟨w.heap.size, 0, none⟩)), qI m.x, qI ((m.t * Wd) + m.x), qI Ht, qI (((m.t * Wd) + m.x) * Ht), isV (.pointer (some ⟨w.heap.size, 1, none⟩)), qI m.y, qI ((((m.t * Wd) + m.x) * Ht) + m.y)] (by rfl) alloc_Z ?_ ?_
  ·intro qi qh qA aa wx hb hs hd
   match qi, qh, qA with
   | 0, _, _ => exact aL ⟨_, op_faN2 rfl (hs 5 rfl), rfl⟩ | 1, _, _ => exact aL (op_ldI rfl rfl (hd 0 rfl) ((HE.out.to hb).cell 0 2 rfl rfl)) | 2, _, _ => exact aL (op_mv rfl (hs 0 rfl)) | 3, _, _ => exact aL ⟨_, op_mul (by unfold Fit; omega) rfl (hd 1 rfl) (hd 2 rfl), rfl⟩ | 4, _, _ => exact aL ⟨_, op_faN0 rfl (hs 5 rfl), rfl⟩ | 5, _, _ => exact aL (op_ldI rfl rfl (hd 4 rfl) ((HE.out.to hb).cell 0 0 rfl rfl)) | 6, _, _ => exact aL ⟨_, op_add (by unfold Fit; omega) rfl (hd 3 rfl) (hd 5 rfl), rfl⟩ | 7, _, _ => exact aL (op_mv rfl (hs 1 rfl)) | 8, _, _ => exact aL ⟨_, op_mul (by unfold Fit; omega) rfl (hd 6 rfl) (hd 7 rfl), rfl⟩ | 9, _, _ => exact aL ⟨_, op_faN1 rfl (hs 5 rfl), rfl⟩ | 10, _, _ => exact aL (op_ldI rfl rfl (hd 9 rfl) ((HE.out.to hb).cell 0 1 rfl rfl)) | 11, _, _ => exact aL ⟨_, op_add (by unfold Fit; omega) rfl (hd 8 rfl) (hd 10 rfl), rfl⟩ | qi + 12, h, _ => omega
  intro vs X1 hb hv hal hne; replace HB := Hd.mk (bel_then HB.out hb); replace HE := Hd.mk (HE.out.to hb); have e19 : vs 19 = .int .i64 ((((m.t * Wd) + m.x) * Ht) + m.y) := hv 11 (by decide) rfl; simp only [PA, e19]; clear hv hal hne hb e19; go_upto_region 2 with fail
  refine wp_region_vd 2 [20, 21] [0] [] 63 [.int .i64 0, .int .i64 0] [isV (.pointer (some ⟨w.heap.size, 3, none⟩)), qT] (by rfl) alloc_Z ?_ ?_
  ·intro qi qh qA aa wx hb hs hd
   match qi, qh, qA with
   | 0, _, _ => exact aL ⟨_, op_faN3 rfl (hs 5 rfl), rfl⟩ | 1, _, _ => exact aL (wp_b (bool_eq HF.out) (op_ldB rfl rfl (hd 0 rfl) ((HE.out.to hb).cell 0 3 rfl rfl))) | qi + 2, h, _ => omega
  intro vs X2 hb hv hal hne; replace HB := Hd.mk (bel_then HB.out hb); replace HE := Hd.mk (HE.out.to hb); have e21 : vs 21 = .bool true := hv 1 (by decide) rfl; simp only [PA, e21]; clear hv hal hne hb e21; go_upto_region 3 with fail
  refine wp_region_vd 6 [22, 23, 24, 25, 26, 27] [0, 1, 2, 3, 4, 5] [] 63 [.int .i64 0, .int .i64 0] [qI ((((m.t * Wd) + m.x) * Ht) + m.y), qI Wd, qI (4 * Wd), qI Ht, qI ((4 * Wd) * Ht), qI (((((m.t * Wd) + m.x) * Ht) + m.y) + ((4 * Wd) * Ht))] (by rfl) alloc_Z ?_ ?_
  ·intro qi qh qA aa wx hb hs hd
   match qi, qh, qA with
   | 0, _, _ => exact aL (op_mv rfl (hs 7 rfl)) | 1, _, _ => exact aL (op_mv rfl (hs 0 rfl)) | 2, _, _ => exact aL ⟨_, op_mul (by unfold Fit; omega) rfl rfl (hd 1 rfl), rfl⟩ | 3, _, _ => exact aL (op_mv rfl (hs 1 rfl)) | 4, _, _ => exact aL ⟨_, op_mul (by unfold Fit; omega) rfl (hd 2 rfl) (hd 3 rfl), rfl⟩ | 5, _, _ => exact aL ⟨_, op_add (by unfold Fit; omega) rfl (hd 0 rfl) (hd 4 rfl), rfl⟩ | qi + 6, h, _ => omega
  intro vs X3 hb hv hal hne; replace HB := Hd.mk (bel_then HB.out hb); replace HE := Hd.mk (HE.out.to hb); have e27 : vs 27 = .int .i64 (((((m.t * Wd) + m.x) * Ht) + m.y) + ((4 * Wd) * Ht)) := hv 5 (by decide) rfl; simp only [PA, e27]; clear hv hal hne hb e27; go_upto_region 4 with fail
  refine wp_region_vd 1 [28] [0] [] 63 [.int .i64 0, .int .i64 0] [qI (((((m.t * Wd) + m.x) * Ht) + m.y) + ((4 * Wd) * Ht))] (by rfl) alloc_Z ?_ ?_
  ·intro qi qh qA aa wx hb hs hd
   match qi, qh, qA with
   | 0, _, _ => exact aL (op_mv rfl (hs 7 rfl)) | qi + 1, h, _ => omega
  intro vs X4 hb hv hal hne; replace HB := Hd.mk (bel_then HB.out hb); replace HE := Hd.mk (HE.out.to hb); have e28 : vs 28 = .int .i64 (((((m.t * Wd) + m.x) * Ht) + m.y) + ((4 * Wd) * Ht)) := hv 0 (by decide) rfl; simp only [PA, e28]; clear hv hal hne hb e28; go_wp2_with fail
  go_ret
  exact ⟨_, rfl, HB.out, rfl⟩
 have hf' : m.f = false := by simpa using hf
 have e0 : numM Wd Ht m = (m.t * Wd + m.x) * Ht + m.y := by unfold numM; rw [if_neg hf, Int.add_zero]
 rw [e0]; have HF := Hd.mk hf'; clear hf hf' e0; go_enter Tryz.func35, Tryz.ntmps35
 go_upto_region 1 with fail
 obtain ⟨W0, hW0⟩ : ∃ W : World, W = w.alloc (.cells #[.int .i64 m.x, .int .i64 m.y, .int .i64 m.t, .bool m.f] 56) := ⟨_, rfl⟩; rw [← hW0]; obtain ⟨he, hb⟩ := env_one hW0; have HE := Hd.mk he; have HB := Hd.mk hb; clear he hb hW0; refine wp_region_vd 12 [8, 9, 10, 11, 12, 13, 14, 15, 16, 17, 18, 19] [0, 2, 3, 4, 6, 7, 8, 9, 11] [] 63 [.int .i64 0, .int .i64 0] [isV (.pointer (some ⟨w.heap.size, 2, none⟩)), qI m.t, qI Wd, qI (m.t * Wd), isV (.pointer (some ⟨w.heap.size, 0, none⟩)), qI m.x, qI ((m.t * Wd) + m.x), qI Ht, qI (((m.t * Wd) + m.x) * Ht), isV (.pointer (some ⟨w.heap.size, 1, none⟩)), qI m.y, qI ((((m.t * Wd) + m.x) * Ht) + m.y)] (by rfl) alloc_Z ?_ ?_
 ·intro qi qh qA aa wx hb hs hd
  match qi, qh, qA with
  | 0, _, _ => exact aL ⟨_, op_faN2 rfl (hs 5 rfl), rfl⟩ | 1, _, _ => exact aL (op_ldI rfl rfl (hd 0 rfl) ((HE.out.to hb).cell 0 2 rfl rfl)) | 2, _, _ => exact aL (op_mv rfl (hs 0 rfl)) | 3, _, _ => exact aL ⟨_, op_mul (by unfold Fit; omega) rfl (hd 1 rfl) (hd 2 rfl), rfl⟩ | 4, _, _ => exact aL ⟨_, op_faN0 rfl (hs 5 rfl), rfl⟩ | 5, _, _ => exact aL (op_ldI rfl rfl (hd 4 rfl) ((HE.out.to hb).cell 0 0 rfl rfl)) | 6, _, _ => exact aL ⟨_, op_add (by unfold Fit; omega) rfl (hd 3 rfl) (hd 5 rfl), rfl⟩ | 7, _, _ => exact aL (op_mv rfl (hs 1 rfl)) | 8, _, _ => exact aL ⟨_, op_mul (by unfold Fit; omega) rfl (hd 6 rfl) (hd 7 rfl), rfl⟩ | 9, _, _ => exact aL ⟨_, op_faN1 rfl (hs 5 rfl), rfl⟩ | 10, _, _ => exact aL (op_ldI rfl rfl (hd 9 rfl) ((HE.out.to hb).cell 0 1 rfl rfl)) | 11, _, _ => exact aL ⟨_, op_add (by unfold Fit; omega) rfl (hd 8 rfl) (hd 10 rfl), rfl⟩ | qi + 12, h, _ => omega
 intro vs X1 hb hv hal hne; replace HB := Hd.mk (bel_then HB.out hb); replace HE := Hd.mk (HE.out.to hb); have e19 : vs 19 = .int .i64 ((((m.t * Wd) + m.x) * Ht) + m.y) := hv 11 (by decide) rfl; simp only [PA, e19]; clear hv hal hne hb e19; go_upto_region 2 with fail
 refine wp_region_vd 2 [20, 21] [0] [] 63 [.int .i64 0, .int .i64 0] [isV (.pointer (some ⟨w.heap.size, 3, none⟩)), qF] (by rfl) alloc_Z ?_ ?_
 ·intro qi qh qA aa wx hb hs hd
  match qi, qh, qA with
  | 0, _, _ => exact aL ⟨_, op_faN3 rfl (hs 5 rfl), rfl⟩ | 1, _, _ => exact aL (wp_b (bool_eq HF.out) (op_ldB rfl rfl (hd 0 rfl) ((HE.out.to hb).cell 0 3 rfl rfl))) | qi + 2, h, _ => omega
 intro vs X2 hb hv hal hne; replace HB := Hd.mk (bel_then HB.out hb); replace HE := Hd.mk (HE.out.to hb); have e21 : vs 21 = .bool false := hv 1 (by decide) rfl; simp only [PA, e21]; clear hv hal hne hb e21; go_upto_region 4 with fail
 refine wp_region_vd 1 [28] [0] [] 63 [.int .i64 0, .int .i64 0] [qI ((((m.t * Wd) + m.x) * Ht) + m.y)] (by rfl) alloc_Z ?_ ?_
 ·intro qi qh qA aa wx hb hs hd
  match qi, qh, qA with
  | 0, _, _ => exact aL (op_mv rfl (hs 7 rfl)) | qi + 1, h, _ => omega
 intro vs X3 hb hv hal hne; replace HB := Hd.mk (bel_then HB.out hb); replace HE := Hd.mk (HE.out.to hb); have e28 : vs 28 = .int .i64 ((((m.t * Wd) + m.x) * Ht) + m.y) := hv 0 (by decide) rfl; simp only [PA, e28]; clear hv hal hne hb e28; go_wp2_with fail
 go_ret
 exact ⟨_, rfl, HB.out, rfl⟩
end Go.Proofs.YtddbmckbankmeaaGreat
