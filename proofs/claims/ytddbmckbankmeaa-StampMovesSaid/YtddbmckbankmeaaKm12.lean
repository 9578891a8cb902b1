/- Part 12 of the texts behind this claim. -/
import Derived.Test.YtddbmckbankmeaaKm1
import Derived.Test.YtddbmckbankmeaaKm8
import Derived.Test.YtddbmckbankmeaaKm11
set_option linter.unusedVariables false
set_option linter.unusedSimpArgs false
namespace Go.Proofs.Ytddbmckbankmeaa
open Go.RowKit
theorem Al.okm {W H : Int} {m : Mv} (h : Al W H m) : Okm W H m.x m.y m.t := ⟨h.w, h.h, h.x, h.y, h.t⟩
def isMp (lo : Nat) (ms : List Mv) : SP := ⟨fun v w => ∃ b, v = .map (some b) ∧ lo ≤ b ∧ MapM w b ms, fun v w w' ⟨b, h1, h2, h3⟩ hb => ⟨b, h1, h2, h3.to hb⟩⟩
section
variable {Q : Exit → Act → World → Prop} {o : Oper} {a : Act} {w w' : World} {d b : Nat} {x y z : Operand} {m : Mv} {ms : List Mv} {ops : Array Oper} {rest : List Oper} {L : List Ent}
theorem op_mkM (ho : o.op = .makeMap 118 none) (hd : o.dst = some d) (lo : Nat) (hl : lo ≤ w.heap.size) : o.wp Try.prog a w (Post a w d (isMp lo []).p) Q := by
  have key : (execOp a.eval o).run Try.prog w = .ok (.value (.map (some w.heap.size))) (w.alloc (.map #[] 0)) := by
    unfold execOp
    simp only [ho]
    simp [run_makeMap, Result.andThen]
  unfold Oper.wp
  rw [key]
  show Post a w d _ (a.put o.dst _) _
  rw [hd]
  exact ⟨_, rfl, below_alloc (Below.refl _ _) _, w.heap.size, rfl, hl, mapM_made w⟩
theorem wpList_mapM (hg : o.guard = none) (ho : o.op = .mapUpdate 118 x y z) (hd : o.dst = none) (hx : a.eval x = .map (some b)) (hy : a.eval y = .agg #[.int .i64 m.x, .int .i64 m.y, .int .i64 m.t, .bool m.f]) (hz : a.eval z = .bool true)
    (h : MapM w b ms) (hw : WfM m) (hn : ms.length < maxLen) (hK : ∀ w', MapM w' b (ms ++ [m]) → w.grownBy w' (some b) → wpList Try.prog ops Q rest a w') : wpList Try.prog ops Q (o :: rest) a w := by
  refine wpList_plain hg fun K' hK' => ?_
  obtain ⟨w', r1, r2, r3⟩ := h.store hw hn
  unfold mvv at r1
  unfold Oper.wp
  simp [execOp, ho, hx, hy, hz, r1, Result.andThen]
  show K' (a.put o.dst undef) w'
  rw [hd]
  exact hK' _ _ (hK w' r2 r3)
theorem Env.grown : ∀ {L : List Ent}, Env w L → w.grownBy w' (some b) → (∀ e ∈ L, e.g ≠ b) → Env w' L
  | [], _, _, _ => trivial
  | e :: L, ⟨h1, h2, h3⟩, hg, hne => ⟨(hg.block e.g h1.lt (fun e2 => hne e (List.mem_cons_self ..) (Option.some.inj e2))).trans h1, h2, Env.grown h3 hg (fun e' he => hne e' (List.mem_cons_of_mem _ he))⟩
end
end Go.Proofs.Ytddbmckbankmeaa
set_option linter.unusedVariables false
set_option linter.unusedSimpArgs false
namespace Go.Proofs.Ytddbmckbankmeaa
open Go.RowKit
theorem mul_b {a b A B : Int} (ha : 0 ≤ a ∧ a ≤ A) (hb : 0 ≤ b ∧ b ≤ B) : 0 ≤ a * b ∧ a * b ≤ A * B :=
  ⟨Int.mul_nonneg ha.1 hb.1, Int.mul_le_mul ha.2 hb.2 hb.1 (by omega)⟩
def numM (W H : Int) (m : Mv) : Int := (m.t * W + m.x) * H + m.y + (if m.f = true then 4 * W * H else 0)
theorem num_digits {W H a b x y : Int} (hx : 0 ≤ x ∧ x < H) (hy : 0 ≤ y ∧ y < H) (h : a * H + x = b * H + y) : a = b ∧ x = y := by
  have e1 : (a * H + x) / H = a := by rw [Int.add_comm, Int.add_mul_ediv_right _ _ (by omega), Int.ediv_eq_zero_of_lt hx.1 hx.2, Int.zero_add]
  have e2 : (b * H + y) / H = b := by rw [Int.add_comm, Int.add_mul_ediv_right _ _ (by omega), Int.ediv_eq_zero_of_lt hy.1 hy.2, Int.zero_add]
  have : a = b := by rw [← e1, h, e2]
  subst this
  exact ⟨rfl, by omega⟩
section
variable {W H : Int} {m n : Mv}
theorem num_low (h : Al W H m) : 0 ≤ (m.t * W + m.x) * H + m.y ∧ (m.t * W + m.x) * H + m.y < 4 * W * H := by
  have hw := h.w
  have hh := h.h
  have hx := h.x
  have hy := h.y
  have ht := h.t
  have b1 := mul_b (a := m.t) (b := W) (A := 3) (B := W) (by omega) (by omega)
  have b2 := mul_b (a := m.t * W + m.x) (b := H) (A := 4 * W - 1) (B := H) (by omega) (by omega)
  rw [Int.sub_mul, Int.one_mul] at b2
  omega
theorem num_lt (h : Al W H m) : 0 ≤ numM W H m ∧ numM W H m < 8 * W * H := by
  have h1 := num_low h
  have e : 8 * W * H = 4 * W * H + 4 * W * H := by rw [← Int.add_mul, ← Int.add_mul]; rfl
  unfold numM
  split <;> omega
theorem num_inj (h : Al W H m) (k : Al W H n) (e : numM W H m = numM W H n) : m = n := by
  have h1 := num_low h
  have k1 := num_low k
  have hf : m.f = n.f := by
    unfold numM at e
    cases hm : m.f <;> cases hn : n.f <;> simp [hm, hn] at e ⊢ <;> omega
  have e1 : (m.t * W + m.x) * H + m.y = (n.t * W + n.x) * H + n.y := by
    unfold numM at e
    rw [hf] at e
    omega
  have d1 := num_digits (W := W) h.y k.y e1
  have d2 := num_digits (W := W) h.x k.x d1.1
  obtain ⟨x, y, t, f⟩ := m
  obtain ⟨x', y', t', f'⟩ := n
  simp only at hf d1 d2
  rw [d2.1, d2.2, d1.2, hf]
end
def bools (bs : List Bool) : List Value := bs.map .bool
section
variable {w w' : World} {g n k j : Nat} {bs : List Bool} {b : Bool} {lo : Nat}
theorem bools_at {j : Nat} (h : j < bs.length) : (bools bs)[j]? = some (.bool (bs.getD j false)) := by
  unfold bools
  rw [List.getElem?_map, List.getElem?_eq_getElem h, List.getD_eq_getElem?_getD, List.getElem?_eq_getElem h]
  rfl
def BB (w : World) (g : Nat) (bs : List Bool) : Prop := ∃ rest, Blk w g 4 (bools bs ++ rest)
theorem BB.to (h : BB w g bs) (hb : Below w.heap.size w w') : BB w' g bs := let ⟨r, h⟩ := h; ⟨r, h.to hb⟩
theorem BB.lt (h : BB w g bs) : g < w.heap.size := let ⟨r, h⟩ := h; Blk.lt h
theorem BB.cell (h : BB w g bs) (hj : j < bs.length) : w.cell? ⟨g, j, none⟩ = some (.bool (bs.getD j false)) := by
  obtain ⟨r, h⟩ := h
  rw [h.cell j, List.getElem?_append_left (by unfold bools; rw [List.length_map]; exact hj), bools_at hj]
theorem BB.put {g' o : Nat} {vs : List Value} (h : BB w g bs) (hlt : g < g') : BB (putL w g' o vs) g bs := let ⟨r, h⟩ := h; ⟨r, putL_far vs w o h (Nat.ne_of_lt hlt)⟩
theorem BB.set (h : BB w g bs) (hj : j < bs.length) : BB (putL w g j [.bool b]) g (bs.set j b) := by
  obtain ⟨r, h⟩ := h
  refine ⟨r, ?_⟩
  have := putL_one (o := j) (v := .bool b) h
  rwa [List.set_append_left _ _ (by unfold bools; rw [List.length_map]; exact hj), show (bools bs).set j (.bool b) = bools (bs.set j b) from by unfold bools; rw [List.map_set]] at this
end
section
variable {Q : Exit → Act → World → Prop} {o : Oper} {a : Act} {w : World} {d g n k : Nat} {i : Int} {x y : Operand} {bs : List Bool}
theorem op_idxB (h0 : 0 ≤ i) (h1 : i < (n : Int)) (ho : o.op = .indexAddr 101 x y) (hx : a.eval x = .slice (some ⟨g, 0, none⟩) n k) (hy : a.eval y = .int .i64 i) (w : World) : (execOp a.eval o).run Try.prog w = .ok (.value (.pointer (some ⟨g, i.toNat, none⟩))) w := by
  generalize a.eval = ev at hx hy ⊢
  unfold execOp
  simp only [ho, hx, hy]
  have ha : ∀ q : Nat, (⟨g, 0, none⟩ : Addr).add q = ⟨g, q, none⟩ := fun q => by unfold Addr.add; split <;> simp_all
  simp [go_sem, h0, h1, ha]
def isBs (lo : Nat) (bs : List Bool) : SP := ⟨fun v w => ∃ g, v = .slice (some ⟨g, 0, none⟩) bs.length bs.length ∧ lo ≤ g ∧ BB w g bs, fun v w w' ⟨g, h1, h2, h3⟩ hb => ⟨g, h1, h2, h3.to hb⟩⟩
end
theorem Try.info_bool : (Try.prog.info? 4).map (fun i => (i.zero, i.size, i.bytes)) = some (some (.bool false), 1, 1) := by kernel_rfl
set_option maxRecDepth 100000 in
theorem make_bools (n : Nat) (hn : n ≤ 17592186044416) (w : World) :
    (Instr.makeSlice 101 (.int .i64 (n : Int)) (.int .i64 (n : Int))).run Try.prog w = .ok (.slice (some ⟨w.heap.size, 0, none⟩) n n) (w.alloc (.cells (bools (List.replicate n false)).toArray 4)) := by
  obtain ⟨i0, hi, hz0, hz1, hz2⟩ := info_parts Try.info_bool
  have hb : (i0.bytes : Int) * (n : Int) ≤ 281474976710656 := by rw [hz2]; omega
  have hr := run_make (P := Try.prog) w 101 4 i0 (.bool false) (by kernel_rfl) hi hz0 .i64 .i64 n n (by omega) (by omega) hb (by omega)
  simp only [Int.toNat_natCast] at hr
  rw [hr]
  congr 3
  rw [show bools (List.replicate n false) = List.replicate n (Value.bool false) from by simp [bools], hz1]
  apply Array.ext
  · simp [madeCells]
  intro i h1 h2
  simp [madeCells, Value.cells, Nat.mod_one]
section
variable {Q : Exit → Act → World → Prop} {o : Oper} {a : Act} {w : World} {d g n k j : Nat} {x y : Operand} {bs : List Bool} {b : Bool}
theorem op_makeB (hn : n ≤ 17592186044416) (ho : o.op = .makeSlice 101 x y) (hd : o.dst = some d) (hx : a.eval x = .int .i64 (n : Int)) (hy : a.eval y = .int .i64 (n : Int)) (lo : Nat) (hl : lo ≤ w.heap.size) : o.wp Try.prog a w (Post a w d (isBs lo (List.replicate n false)).p) Q := by
  have hr : (execOp a.eval o).run Try.prog w = .ok (.value (.slice (some ⟨w.heap.size, 0, none⟩) n n)) (w.alloc (.cells (bools (List.replicate n false)).toArray 4)) := by
    unfold execOp
    simp only [ho, hx, hy, Sem.run_bind, make_bools n hn, Result.andThen_ok, Sem.run_pure]
  unfold Oper.wp
  rw [hr]
  show Post a w d _ (a.put o.dst _) _
  rw [hd]
  have hB : Blk (w.alloc (.cells (bools (List.replicate n false)).toArray 4)) w.heap.size 4 (bools (List.replicate n false)) := heap_alloc_new _ _
  exact ⟨_, rfl, below_alloc (Below.refl _ _) _, w.heap.size, by simp, hl, [], by simpa using hB⟩
theorem sto_BB (h : BB w g bs) (hj : j < bs.length) : (Instr.storeAt 4 (.pointer (some ⟨g, j, none⟩)) (.bool b)).run Try.prog w = .ok () (putL w g j [.bool b]) := by
  obtain ⟨r, h⟩ := h
  exact sto_B h (v := .bool (bs.getD j false)) (by rw [List.getElem?_append_left (by unfold bools; rw [List.length_map]; exact hj), bools_at hj])
end
set_option maxRecDepth 100000 in
set_option maxHeartbeats 1000000 in
theorem number_got (Wd Ht : Int) (m : Mv) (h : Al Wd Ht m) (w : World) :
    Calls Try.prog 65 #[.int .i64 Wd, .int .i64 Ht, .agg #[.int .i64 m.x, .int .i64 m.y, .int .i64 m.t, .bool m.f]] w (Got w (isV (.int .i64 (numM Wd Ht m))).p) := by
  have hw := h.w
  have hh := h.h
  have hx := h.x
  have hy := h.y
  have ht := h.t
  have b1 := mul_b (a := m.t) (b := Wd) (A := 3) (B := 8) (by omega) (by omega)
  have b2 := mul_b (a := m.t * Wd + m.x) (b := Ht) (A := 31) (B := 8) (by omega) (by omega)
  have b3 := mul_b (a := 4 * Wd) (b := Ht) (A := 32) (B := 8) (by omega) (by omega)
  by_cases hf : m.f = true
  · have e0 : numM Wd Ht m = (m.t * Wd + m.x) * Ht + m.y + 4 * Wd * Ht := by unfold numM; rw [if_pos hf]
    rw [e0]
    have HF := Hd.mk hf
    clear hf e0
    go_enter Try.func65, Try.ntmps65
    go_upto_region 1 with fail
    obtain ⟨W0, hW0⟩ : ∃ W : World, W = w.alloc (.cells #[.int .i64 m.x, .int .i64 m.y, .int .i64 m.t, .bool m.f] 26) := ⟨_, rfl⟩
    rw [← hW0]
    obtain ⟨he, hb⟩ := env_one hW0
    have HE := Hd.mk he
    have HB := Hd.mk hb
    clear he hb hW0
    refine wp_region_vd 12 [8, 9, 10, 11, 12, 13, 14, 15, 16, 17, 18, 19] [0, 2, 3, 4, 6, 7, 8, 9, 11] [] 84 [.int .i64 0, .int .i64 0] [isV (.pointer (some ⟨w.heap.size, 2, none⟩)), isV (.int .i64 m.t), isV (.int .i64 Wd), isV (.int .i64 (m.t * Wd)), isV (.pointer (some ⟨w.heap.size, 0, none⟩)), isV (.int .i64 m.x), isV (.int .i64 ((m.t * Wd) + m.x)), isV (.int .i64 Ht), isV (.int .i64 (((m.t * Wd) + m.x) * Ht)), isV (.pointer (some ⟨w.heap.size, 1, none⟩)), isV (.int .i64 m.y), isV (.int .i64 ((((m.t * Wd) + m.x) * Ht) + m.y))] (by rfl) alloc_Z ?_ ?_
    · intro qi qh qA aa wx hb hs hd
      match qi, qh, qA with
      | 0, _, _ => exact .inl ⟨rfl, ⟨_, op_faN2 rfl (hs 5 rfl), rfl⟩⟩
      | 1, _, _ => exact .inl ⟨rfl, op_ldI rfl rfl (hd 0 rfl) ((HE.out.to hb).cell 0 2 rfl rfl)⟩
      | 2, _, _ => exact .inl ⟨rfl, op_mv rfl (hs 0 rfl)⟩
      | 3, _, _ => exact .inl ⟨rfl, ⟨_, op_mul (by unfold Fit; omega) rfl (hd 1 rfl) (hd 2 rfl), rfl⟩⟩
      | 4, _, _ => exact .inl ⟨rfl, ⟨_, op_faN0 rfl (hs 5 rfl), rfl⟩⟩
      | 5, _, _ => exact .inl ⟨rfl, op_ldI rfl rfl (hd 4 rfl) ((HE.out.to hb).cell 0 0 rfl rfl)⟩
      | 6, _, _ => exact .inl ⟨rfl, ⟨_, op_add (by unfold Fit; omega) rfl (hd 3 rfl) (hd 5 rfl), rfl⟩⟩
      | 7, _, _ => exact .inl ⟨rfl, op_mv rfl (hs 1 rfl)⟩
      | 8, _, _ => exact .inl ⟨rfl, ⟨_, op_mul (by unfold Fit; omega) rfl (hd 6 rfl) (hd 7 rfl), rfl⟩⟩
      | 9, _, _ => exact .inl ⟨rfl, ⟨_, op_faN1 rfl (hs 5 rfl), rfl⟩⟩
      | 10, _, _ => exact .inl ⟨rfl, op_ldI rfl rfl (hd 9 rfl) ((HE.out.to hb).cell 0 1 rfl rfl)⟩
      | 11, _, _ => exact .inl ⟨rfl, ⟨_, op_add (by unfold Fit; omega) rfl (hd 8 rfl) (hd 10 rfl), rfl⟩⟩
      | qi + 12, h, _ => omega
    intro vs X1 hb hv hal hne
    replace HB := Hd.mk (bel_then HB.out hb)
    replace HE := Hd.mk (HE.out.to hb)
    have e19 : vs 19 = .int .i64 ((((m.t * Wd) + m.x) * Ht) + m.y) := hv 11 (by decide) rfl
    simp only [PA, e19]
    clear hv hal hne hb e19
    go_upto_region 2 with fail
    refine wp_region_vd 2 [20, 21] [0] [] 84 [.int .i64 0, .int .i64 0] [isV (.pointer (some ⟨w.heap.size, 3, none⟩)), isV (.bool true)] (by rfl) alloc_Z ?_ ?_
    · intro qi qh qA aa wx hb hs hd
      match qi, qh, qA with
      | 0, _, _ => exact .inl ⟨rfl, ⟨_, op_faN3 rfl (hs 5 rfl), rfl⟩⟩
      | 1, _, _ => exact .inl ⟨rfl, wp_b (bool_eq HF.out) (op_ldB rfl rfl (hd 0 rfl) ((HE.out.to hb).cell 0 3 rfl rfl))⟩
      | qi + 2, h, _ => omega
    intro vs X2 hb hv hal hne
    replace HB := Hd.mk (bel_then HB.out hb)
    replace HE := Hd.mk (HE.out.to hb)
    have e21 : vs 21 = .bool true := hv 1 (by decide) rfl
    simp only [PA, e21]
    clear hv hal hne hb e21
    go_upto_region 3 with fail
    refine wp_region_vd 6 [22, 23, 24, 25, 26, 27] [0, 1, 2, 3, 4, 5] [] 84 [.int .i64 0, .int .i64 0] [isV (.int .i64 ((((m.t * Wd) + m.x) * Ht) + m.y)), isV (.int .i64 Wd), isV (.int .i64 (4 * Wd)), isV (.int .i64 Ht), isV (.int .i64 ((4 * Wd) * Ht)), isV (.int .i64 (((((m.t * Wd) + m.x) * Ht) + m.y) + ((4 * Wd) * Ht)))] (by rfl) alloc_Z ?_ ?_
    · intro qi qh qA aa wx hb hs hd
      match qi, qh, qA with
      | 0, _, _ => exact .inl ⟨rfl, op_mv rfl (hs 7 rfl)⟩
      | 1, _, _ => exact .inl ⟨rfl, op_mv rfl (hs 0 rfl)⟩
      | 2, _, _ => exact .inl ⟨rfl, ⟨_, op_mul (by unfold Fit; omega) rfl rfl (hd 1 rfl), rfl⟩⟩
      | 3, _, _ => exact .inl ⟨rfl, op_mv rfl (hs 1 rfl)⟩
      | 4, _, _ => exact .inl ⟨rfl, ⟨_, op_mul (by unfold Fit; omega) rfl (hd 2 rfl) (hd 3 rfl), rfl⟩⟩
      | 5, _, _ => exact .inl ⟨rfl, ⟨_, op_add (by unfold Fit; omega) rfl (hd 0 rfl) (hd 4 rfl), rfl⟩⟩
      | qi + 6, h, _ => omega
    intro vs X3 hb hv hal hne
    replace HB := Hd.mk (bel_then HB.out hb)
    replace HE := Hd.mk (HE.out.to hb)
    have e27 : vs 27 = .int .i64 (((((m.t * Wd) + m.x) * Ht) + m.y) + ((4 * Wd) * Ht)) := hv 5 (by decide) rfl
    simp only [PA, e27]
    clear hv hal hne hb e27
    go_upto_region 4 with fail
    refine wp_region_vd 1 [28] [0] [] 84 [.int .i64 0, .int .i64 0] [isV (.int .i64 (((((m.t * Wd) + m.x) * Ht) + m.y) + ((4 * Wd) * Ht)))] (by rfl) alloc_Z ?_ ?_
    · intro qi qh qA aa wx hb hs hd
      match qi, qh, qA with
      | 0, _, _ => exact .inl ⟨rfl, op_mv rfl (hs 7 rfl)⟩
      | qi + 1, h, _ => omega
    intro vs X4 hb hv hal hne
    replace HB := Hd.mk (bel_then HB.out hb)
    replace HE := Hd.mk (HE.out.to hb)
    have e28 : vs 28 = .int .i64 (((((m.t * Wd) + m.x) * Ht) + m.y) + ((4 * Wd) * Ht)) := hv 0 (by decide) rfl
    simp only [PA, e28]
    clear hv hal hne hb e28
    go_wp2_with fail
    go_ret
    exact ⟨_, rfl, HB.out, rfl⟩
  have hf' : m.f = false := by simpa using hf
  have e0 : numM Wd Ht m = (m.t * Wd + m.x) * Ht + m.y := by unfold numM; rw [if_neg hf, Int.add_zero]
  rw [e0]
  have HF := Hd.mk hf'
  clear hf hf' e0
  go_enter Try.func65, Try.ntmps65
  go_upto_region 1 with fail
  obtain ⟨W0, hW0⟩ : ∃ W : World, W = w.alloc (.cells #[.int .i64 m.x, .int .i64 m.y, .int .i64 m.t, .bool m.f] 26) := ⟨_, rfl⟩
  rw [← hW0]
  obtain ⟨he, hb⟩ := env_one hW0
  have HE := Hd.mk he
  have HB := Hd.mk hb
  clear he hb hW0
  refine wp_region_vd 12 [8, 9, 10, 11, 12, 13, 14, 15, 16, 17, 18, 19] [0, 2, 3, 4, 6, 7, 8, 9, 11] [] 84 [.int .i64 0, .int .i64 0] [isV (.pointer (some ⟨w.heap.size, 2, none⟩)), isV (.int .i64 m.t), isV (.int .i64 Wd), isV (.int .i64 (m.t * Wd)), isV (.pointer (some ⟨w.heap.size, 0, none⟩)), isV (.int .i64 m.x), isV (.int .i64 ((m.t * Wd) + m.x)), isV (.int .i64 Ht), isV (.int .i64 (((m.t * Wd) + m.x) * Ht)), isV (.pointer (some ⟨w.heap.size, 1, none⟩)), isV (.int .i64 m.y), isV (.int .i64 ((((m.t * Wd) + m.x) * Ht) + m.y))] (by rfl) alloc_Z ?_ ?_
  · intro qi qh qA aa wx hb hs hd
    match qi, qh, qA with
    | 0, _, _ => exact .inl ⟨rfl, ⟨_, op_faN2 rfl (hs 5 rfl), rfl⟩⟩
    | 1, _, _ => exact .inl ⟨rfl, op_ldI rfl rfl (hd 0 rfl) ((HE.out.to hb).cell 0 2 rfl rfl)⟩
    | 2, _, _ => exact .inl ⟨rfl, op_mv rfl (hs 0 rfl)⟩
    | 3, _, _ => exact .inl ⟨rfl, ⟨_, op_mul (by unfold Fit; omega) rfl (hd 1 rfl) (hd 2 rfl), rfl⟩⟩
    | 4, _, _ => exact .inl ⟨rfl, ⟨_, op_faN0 rfl (hs 5 rfl), rfl⟩⟩
    | 5, _, _ => exact .inl ⟨rfl, op_ldI rfl rfl (hd 4 rfl) ((HE.out.to hb).cell 0 0 rfl rfl)⟩
    | 6, _, _ => exact .inl ⟨rfl, ⟨_, op_add (by unfold Fit; omega) rfl (hd 3 rfl) (hd 5 rfl), rfl⟩⟩
    | 7, _, _ => exact .inl ⟨rfl, op_mv rfl (hs 1 rfl)⟩
    | 8, _, _ => exact .inl ⟨rfl, ⟨_, op_mul (by unfold Fit; omega) rfl (hd 6 rfl) (hd 7 rfl), rfl⟩⟩
    | 9, _, _ => exact .inl ⟨rfl, ⟨_, op_faN1 rfl (hs 5 rfl), rfl⟩⟩
    | 10, _, _ => exact .inl ⟨rfl, op_ldI rfl rfl (hd 9 rfl) ((HE.out.to hb).cell 0 1 rfl rfl)⟩
    | 11, _, _ => exact .inl ⟨rfl, ⟨_, op_add (by unfold Fit; omega) rfl (hd 8 rfl) (hd 10 rfl), rfl⟩⟩
    | qi + 12, h, _ => omega
  intro vs X1 hb hv hal hne
  replace HB := Hd.mk (bel_then HB.out hb)
  replace HE := Hd.mk (HE.out.to hb)
  have e19 : vs 19 = .int .i64 ((((m.t * Wd) + m.x) * Ht) + m.y) := hv 11 (by decide) rfl
  simp only [PA, e19]
  clear hv hal hne hb e19
  go_upto_region 2 with fail
  refine wp_region_vd 2 [20, 21] [0] [] 84 [.int .i64 0, .int .i64 0] [isV (.pointer (some ⟨w.heap.size, 3, none⟩)), isV (.bool false)] (by rfl) alloc_Z ?_ ?_
  · intro qi qh qA aa wx hb hs hd
    match qi, qh, qA with
    | 0, _, _ => exact .inl ⟨rfl, ⟨_, op_faN3 rfl (hs 5 rfl), rfl⟩⟩
    | 1, _, _ => exact .inl ⟨rfl, wp_b (bool_eq HF.out) (op_ldB rfl rfl (hd 0 rfl) ((HE.out.to hb).cell 0 3 rfl rfl))⟩
    | qi + 2, h, _ => omega
  intro vs X2 hb hv hal hne
  replace HB := Hd.mk (bel_then HB.out hb)
  replace HE := Hd.mk (HE.out.to hb)
  have e21 : vs 21 = .bool false := hv 1 (by decide) rfl
  simp only [PA, e21]
  clear hv hal hne hb e21
  go_upto_region 4 with fail
  refine wp_region_vd 1 [28] [0] [] 84 [.int .i64 0, .int .i64 0] [isV (.int .i64 ((((m.t * Wd) + m.x) * Ht) + m.y))] (by rfl) alloc_Z ?_ ?_
  · intro qi qh qA aa wx hb hs hd
    match qi, qh, qA with
    | 0, _, _ => exact .inl ⟨rfl, op_mv rfl (hs 7 rfl)⟩
    | qi + 1, h, _ => omega
  intro vs X3 hb hv hal hne
  replace HB := Hd.mk (bel_then HB.out hb)
  replace HE := Hd.mk (HE.out.to hb)
  have e28 : vs 28 = .int .i64 ((((m.t * Wd) + m.x) * Ht) + m.y) := hv 0 (by decide) rfl
  simp only [PA, e28]
  clear hv hal hne hb e28
  go_wp2_with fail
  go_ret
  exact ⟨_, rfl, HB.out, rfl⟩
end Go.Proofs.Ytddbmckbankmeaa
set_option linter.unusedVariables false
set_option linter.unusedSimpArgs false
namespace Go.Proofs.Ytddbmckbankmeaa
open Go.RowKit
theorem memB_add (m n : Mv) (ms : List Mv) : memB m (ms ++ [n]) = (memB m ms || mvEq m n) := by
  unfold memB
  rw [List.any_append]
  simp
def InB (W H : Int) (bs : List Bool) (ms : List Mv) : Prop := bs.length = (8 * W * H).toNat ∧ ∀ m, Al W H m → bs.getD (numM W H m).toNat false = memB m ms
theorem inB_nil (W H : Int) : InB W H (List.replicate (8 * W * H).toNat false) [] := by
  refine ⟨List.length_replicate, fun m h => ?_⟩
  rw [List.getD_eq_getElem?_getD, List.getElem?_replicate]
  split <;> rfl
theorem inB_set {W H : Int} {bs : List Bool} {ms : List Mv} {m : Mv} (h : InB W H bs ms) (hm : Al W H m) : InB W H (bs.set (numM W H m).toNat true) (ms ++ [m]) := by
  have hl := num_lt hm
  refine ⟨by rw [List.length_set]; exact h.1, fun n hn => ?_⟩
  have hl2 := num_lt hn
  rw [memB_add, ← h.2 n hn, List.getD_eq_getElem?_getD, List.getD_eq_getElem?_getD]
  by_cases e : (numM W H m).toNat = (numM W H n).toNat
  · have : n = m := num_inj hn hm (by omega)
    subst this
    rw [List.getElem?_set_self (by rw [h.1]; omega), show mvEq n n = true from mvEq_iff.2 rfl]
    simp
  rw [List.getElem?_set_ne e]
  have : mvEq n m = false := by
    cases hq : mvEq n m
    · rfl
    have := mvEq_iff.1 hq
    subst this
    exact absurd rfl e
  rw [this, Bool.or_false]
section
variable {o : Oper} {a : Act} {x y : Operand} {ty : TypeId} {m m' : Mv}
end
end Go.Proofs.Ytddbmckbankmeaa
set_option linter.unusedVariables false
set_option linter.unusedSimpArgs false
namespace Go.Proofs.Ytddbmckbankmeaa
open Go.RowKit
theorem lex_lt {H a b x y : Int} (hx : 0 ≤ x ∧ x < H) (hy : 0 ≤ y ∧ y < H) : a * H + x < b * H + y ↔ a < b ∨ (a = b ∧ x < y) := by
  rcases Int.lt_trichotomy a b with h | h | h
  · have := Int.mul_le_mul_of_nonneg_right (show a + 1 ≤ b by omega) (show 0 ≤ H by omega)
    rw [Int.add_mul, Int.one_mul] at this
    omega
  · subst h
    omega
  have := Int.mul_le_mul_of_nonneg_right (show b + 1 ≤ a by omega) (show 0 ≤ H by omega)
  rw [Int.add_mul, Int.one_mul] at this
  omega
theorem cmpI_lt (x y : Int) : (x < y ∧ cmpI x y = -1) ∨ (x = y ∧ cmpI x y = 0) ∨ (y < x ∧ cmpI x y = 1) := by
  unfold cmpI
  split
  · omega
  split <;> omega
theorem ord_lt (a b : Mv) : ordM a b < 0 ↔ (a.f = false ∧ b.f = true) ∨ (a.f = b.f ∧ (a.t < b.t ∨ (a.t = b.t ∧ (a.x < b.x ∨ (a.x = b.x ∧ a.y < b.y))))) := by
  unfold ordM
  simp only [orL]
  rcases cmpI_lt a.t b.t with ⟨h1, e1⟩ | ⟨h1, e1⟩ | ⟨h1, e1⟩ <;> rcases cmpI_lt a.x b.x with ⟨h2, e2⟩ | ⟨h2, e2⟩ | ⟨h2, e2⟩ <;> rcases cmpI_lt a.y b.y with ⟨h3, e3⟩ | ⟨h3, e3⟩ | ⟨h3, e3⟩ <;> rw [e1, e2, e3] <;> cases a.f <;> cases b.f <;> simp <;> omega
theorem ord_num {W H : Int} {a b : Mv} (h : Al W H a) (k : Al W H b) : ordM a b < 0 ↔ numM W H a < numM W H b := by
  have h1 := num_low h
  have k1 := num_low k
  have e1 := lex_lt (H := H) (a := a.t * W + a.x) (b := b.t * W + b.x) h.y k.y
  have e2 := lex_lt (H := W) (a := a.t) (b := b.t) h.x k.x
  have e3 : a.t * W + a.x = b.t * W + b.x ↔ a.t = b.t ∧ a.x = b.x := ⟨fun e => num_digits (W := W) h.x k.x e, fun ⟨e, f⟩ => by rw [e, f]⟩
  rw [ord_lt]
  unfold numM
  cases hf : a.f <;> cases hg : b.f <;> simp <;> omega
theorem rising_eq (f : Mv → Int) : ∀ (l m : List Mv), l.Pairwise (fun a b => f a < f b) → m.Pairwise (fun a b => f a < f b) → (∀ x, x ∈ l ↔ x ∈ m) → l = m
  | [], [], _, _, _ => rfl
  | [], b :: m, _, _, h => by have := (h b).2 (List.mem_cons_self ..); cases this
  | a :: l, [], _, _, h => by have := (h a).1 (List.mem_cons_self ..); cases this
  | a :: l, b :: m, h1, h2, h => by
    rw [List.pairwise_cons] at h1 h2
    have hab : a = b := by
      rcases List.mem_cons.1 ((h a).1 (List.mem_cons_self ..)) with e | e
      · exact e
      rcases List.mem_cons.1 ((h b).2 (List.mem_cons_self ..)) with e' | e'
      · exact e'.symm
      have := h1.1 b e'
      have := h2.1 a e
      omega
    subst hab
    have hm : ∀ x, x ∈ l ↔ x ∈ m := by
      intro x
      constructor
      · intro hx
        rcases List.mem_cons.1 ((h x).1 (List.mem_cons_of_mem _ hx)) with e | e
        · subst e; have := h1.1 x hx; omega
        exact e
      intro hx
      rcases List.mem_cons.1 ((h x).2 (List.mem_cons_of_mem _ hx)) with e | e
      · subst e; have := h2.1 x hx; omega
      exact e
    rw [rising_eq f l m h1.2 h2.2 hm]
def OR (a b : Mv) : Prop := ordM a b < 0
theorem rise4 (W H : Nat) (f : Bool) (t x : Nat) : ∀ n, (mvs4 W H f t x n).Pairwise OR
  | 0 => List.Pairwise.nil
  | n + 1 => by
    simp only [mvs4]
    rw [List.pairwise_append]
    refine ⟨rise4 W H f t x n, by split <;> simp, fun a ha b hb => ?_⟩
    obtain ⟨y, hy, rfl, _⟩ := (mem4 W H f t x a n).1 ha
    split at hb
    · rw [List.mem_singleton.1 hb]
      show ordM _ _ < 0
      rw [ord_lt]
      simp
      omega
    cases hb
theorem rise3 (W H : Nat) (f : Bool) (t : Nat) : ∀ n, (mvs3 W H f t n).Pairwise OR
  | 0 => List.Pairwise.nil
  | n + 1 => by
    simp only [mvs3]
    rw [List.pairwise_append]
    refine ⟨rise3 W H f t n, rise4 W H f t n H, fun a ha b hb => ?_⟩
    obtain ⟨x, hx, ha⟩ := (mem3 W H f t a n).1 ha
    obtain ⟨y, hy, rfl, _⟩ := (mem4 W H f t x a H).1 ha
    obtain ⟨z, hz, rfl, _⟩ := (mem4 W H f t n b H).1 hb
    show ordM _ _ < 0
    rw [ord_lt]
    simp
    omega
theorem rise2 (W H : Nat) (f : Bool) : ∀ n, (mvs2 W H f n).Pairwise OR
  | 0 => List.Pairwise.nil
  | n + 1 => by
    simp only [mvs2]
    rw [List.pairwise_append]
    refine ⟨rise2 W H f n, rise3 W H f n W, fun a ha b hb => ?_⟩
    obtain ⟨t, ht, ha⟩ := (mem2 W H f a n).1 ha
    obtain ⟨x, hx, ha⟩ := (mem3 W H f t a W).1 ha
    obtain ⟨y, hy, rfl, _⟩ := (mem4 W H f t x a H).1 ha
    obtain ⟨x', hx', hb⟩ := (mem3 W H f n b W).1 hb
    obtain ⟨z, hz, rfl, _⟩ := (mem4 W H f n x' b H).1 hb
    show ordM _ _ < 0
    rw [ord_lt]
    simp
    omega
theorem f_of2 {W H : Nat} {f : Bool} {n : Nat} {m : Mv} (h : m ∈ mvs2 W H f n) : m.f = f := by
  obtain ⟨t, ht, h⟩ := (mem2 W H f m n).1 h
  obtain ⟨x, hx, h⟩ := (mem3 W H f t m W).1 h
  obtain ⟨y, hy, rfl, _⟩ := (mem4 W H f t x m H).1 h
  rfl
theorem rise1 (W H : Nat) : (mvs1 W H 2).Pairwise OR := by
  show ((([] ++ mvs2 W H (bo 0) 4)) ++ mvs2 W H (bo 1) 4).Pairwise OR
  rw [List.nil_append, List.pairwise_append]
  refine ⟨rise2 W H _ 4, rise2 W H _ 4, fun a ha b hb => ?_⟩
  show ordM _ _ < 0
  rw [ord_lt]
  left
  exact ⟨f_of2 ha, f_of2 hb⟩
theorem rise_num {W H : Nat} (hs : sizeB W H = true) : (mvs1 W H 2).Pairwise (fun a b => numM W H a < numM W H b) := by
  have h := rise1 W H
  refine h.imp_of_mem ?_
  intro a b ha hb hab
  exact (ord_num ((mem_moves hs a).1 ha) ((mem_moves hs b).1 hb)).1 hab
theorem moves_len {W H : Nat} (hW : W ≤ 8) (hH : H ≤ 8) : (mvs1 W H 2).length ≤ 512 := len1 W H hW hH 2
end Go.Proofs.Ytddbmckbankmeaa
set_option linter.unusedVariables false
set_option linter.unusedSimpArgs false
namespace Go.Proofs.Ytddbmckbankmeaa
def Per (n : Int) (f : Int → Int → Int) : Prop := ∀ x y i j : Int, f (x + n * i) (y + n * j) = f x y
def Sym (f : Int → Int → Int) (g : Bool) (k : Nat) (a b : Int) : Prop := ∀ x y : Int, f ((trn g x y k).1 + a) ((trn g x y k).2 + b) = f x y
def SymN (n : Int) (f : Int → Int → Int) (g : Bool) (k : Nat) (a b : Int) : Prop := ∀ x y : Int, 0 ≤ x → x < n → 0 ≤ y → y < n → f ((trn g x y k).1 + a) ((trn g x y k).2 + b) = f x y
def Ex (f : Int → Int → Int) (g : Bool) (k : Nat) : Prop := ∃ a b, Sym f g k a b
noncomputable def bP (p : Prop) : Bool := @decide p (Classical.propDecidable p)
theorem bP_true {p : Prop} : bP p = true ↔ p := by
  unfold bP
  exact @decide_eq_true_iff p (Classical.propDecidable p)
theorem bP_false {p : Prop} : bP p = false ↔ ¬p := by
  unfold bP
  exact @decide_eq_false_iff_not p (Classical.propDecidable p)
theorem bP_not {p : Prop} : (!bP p) = bP (¬p) := by
  by_cases h : p
  · rw [bP_true.2 h, bP_false.2 (fun k => k h)]
    rfl
  rw [bP_false.2 h, bP_true.2 h]
  rfl
theorem bP_of {b : Bool} {p : Prop} (h : b = true ↔ p) : b = bP p := by
  by_cases hp : p
  · rw [bP_true.2 hp, h.2 hp]
  rw [bP_false.2 hp]
  cases b
  · rfl
  exact absurd (h.1 rfl) hp
section
variable {n : Int} {f : Int → Int → Int} {g : Bool} {k : Nat} {a b : Int}
theorem Sym.shift (hp : Per n f) (h : Sym f g k a b) (i j : Int) : Sym f g k (a + n * i) (b + n * j) := fun x y => by
  rw [← Int.add_assoc, ← Int.add_assoc, hp]
  exact h x y
end
def far : Nat → Int → Int → Int
  | 0, _, b => b
  | 1, a, b => a - b
  | 2, a, _ => a
  | _, a, b => a + b
def axi : Nat → Int → Int → Int
  | 0, a, _ => a
  | 1, a, b => -a - b
  | 2, _, b => -b
  | _, a, b => a - b
def md (n : Int) : Nat → Int
  | 0 => n
  | 1 => 2 * n
  | 2 => n
  | _ => 2 * n
def Cg (m x y : Int) : Prop := ∃ p : Int, y = x + m * p
theorem cg_iff {m x y : Int} : x % m = y % m ↔ Cg m x y := by
  constructor
  · intro h
    have h1 := Int.emod_add_mul_ediv x m
    have h2 := Int.emod_add_mul_ediv y m
    refine ⟨y / m - x / m, ?_⟩
    rw [Int.mul_sub]
    omega
  rintro ⟨p, rfl⟩
  exact (Int.add_mul_emod_self_left x m p).symm
theorem Cg.symm {m x y : Int} (h : Cg m x y) : Cg m y x := cg_iff.1 (cg_iff.2 h).symm
theorem Cg.trans {m x y z : Int} (h : Cg m x y) (h' : Cg m y z) : Cg m x z := cg_iff.1 ((cg_iff.2 h).trans (cg_iff.2 h'))
theorem Cg.refl (m x : Int) : Cg m x x := ⟨0, by simp⟩
section
variable {n : Int} {f : Int → Int → Int} {k : Nat} {a b : Int}
theorem four (hk : k < 4) : k = 0 ∨ k = 1 ∨ k = 2 ∨ k = 3 := by omega
theorem window (hn : 0 < n) (hk : k < 4) (a b : Int) : ∃ x y e i j : Int, ((0 ≤ x ∧ x < n) ∧ 0 ≤ y ∧ y < n) ∧ (e = 0 ∨ e = 1) ∧ x = a + n * i ∧ y = b + n * j ∧ Cg (md n k) (far k a b) (far k (x + n * e) y) ∧ Cg (md n k) (axi k a b) (axi k (x + n * e) y) := by
  have h1 := Int.emod_add_mul_ediv a n
  have h2 := Int.emod_add_mul_ediv b n
  have h3 := Int.emod_nonneg a (show n ≠ 0 by omega)
  have h4 := Int.emod_lt_of_pos a hn
  have h5 := Int.emod_nonneg b (show n ≠ 0 by omega)
  have h6 := Int.emod_lt_of_pos b hn
  have key : ∀ e : Int, (e = 0 ∨ e = 1) → (∃ p q, far k (a + n * (-(a / n) + e)) (b + n * -(b / n)) = far k a b + md n k * p ∧ axi k (a + n * (-(a / n) + e)) (b + n * -(b / n)) = axi k a b + md n k * q) →
      ∃ x y e i j : Int, ((0 ≤ x ∧ x < n) ∧ 0 ≤ y ∧ y < n) ∧ (e = 0 ∨ e = 1) ∧ x = a + n * i ∧ y = b + n * j ∧ Cg (md n k) (far k a b) (far k (x + n * e) y) ∧ Cg (md n k) (axi k a b) (axi k (x + n * e) y) := by
    rintro e he ⟨p, q, hp, hq⟩
    refine ⟨a % n, b % n, e, -(a / n), -(b / n), ⟨⟨h3, h4⟩, h5, h6⟩, he, by rw [Int.mul_neg]; omega, by rw [Int.mul_neg]; omega, ⟨p, ?_⟩, ⟨q, ?_⟩⟩
    · rw [← hp]
      congr 1
      · rw [Int.mul_add, Int.mul_neg]; omega
      rw [Int.mul_neg]; omega
    rw [← hq]
    congr 1
    · rw [Int.mul_add, Int.mul_neg]; omega
    rw [Int.mul_neg]; omega
  generalize a / n = i at key
  generalize b / n = j at key
  rcases four hk with rfl | rfl | rfl | rfl
  · exact key 0 (Or.inl rfl) ⟨-j, -i, by simp [far, md], by simp [axi, md]⟩
  · obtain ⟨q, hq⟩ : ∃ q, i = j + (i - j) % 2 + 2 * q := ⟨(i - j) / 2, by omega⟩
    generalize hE : (i - j) % 2 = e at hq
    refine key e (by omega) ⟨-q, q + j, ?_, ?_⟩ <;> subst hq <;> simp only [far, axi, md, Int.mul_sub, Int.mul_add, Int.mul_neg, Int.mul_assoc, Int.mul_left_comm n 2] <;> omega
  · exact key 0 (Or.inl rfl) ⟨-i, j, by simp [far, md], by simp [axi, md, Int.mul_neg]; omega⟩
  obtain ⟨q, hq⟩ : ∃ q, i = j + (i - j) % 2 + 2 * q := ⟨(i - j) / 2, by omega⟩
  generalize hE : (i - j) % 2 = e at hq
  refine key e (by omega) ⟨-q - j, -q, ?_, ?_⟩ <;> subst hq <;> simp only [far, axi, md, Int.mul_sub, Int.mul_add, Int.mul_neg, Int.mul_assoc, Int.mul_left_comm n 2] <;> omega
end
def uP (g : Bool) (n : Int) (k : Nat) (x y : Int) : Int × Int := ((x + (trn g x y k).1) % (2 * n), (y + (trn g x y k).2) % (2 * n))
def vP (g : Bool) (n : Int) (k : Nat) (x y : Int) : Int × Int := ((x - (trn g x y k).1) % (2 * n), (y - (trn g x y k).2) % (2 * n))
def Win (n : Int) (x y e : Int) : Prop := ((0 ≤ x ∧ x < n) ∧ 0 ≤ y ∧ y < n) ∧ (e = 0 ∨ e = 1)
section
variable {n : Int} {f : Int → Int → Int} {k : Nat}
theorem ex_win (hn : 0 < n) (hp : Per n f) {g : Bool} : (∃ x y : Int, ((0 ≤ x ∧ x < n) ∧ 0 ≤ y ∧ y < n) ∧ Sym f g k x y) ↔ Ex f g k := by
  constructor
  · rintro ⟨x, y, _, h⟩
    exact ⟨x, y, h⟩
  rintro ⟨a, b, h⟩
  obtain ⟨x, y, e, i, j, h1, h2, h3, h4, _, _⟩ := window hn (k := 0) (by omega) a b
  exact ⟨x, y, h1, by rw [h3, h4]; exact h.shift hp i j⟩
def Win2 (n a b : Int) : Prop := (-2 * n ≤ a ∧ a < 2 * n) ∧ -2 * n ≤ b ∧ b < 2 * n
end
end Go.Proofs.Ytddbmckbankmeaa
set_option linter.unusedVariables false
set_option linter.unusedSimpArgs false
namespace Go.Proofs.Ytddbmckbankmeaa
noncomputable def cnt (p : Nat → Prop) : Nat := (bP (p 0)).toNat + (bP (p 1)).toNat + (bP (p 2)).toNat + (bP (p 3)).toNat
section
variable {f f' : Int → Int → Int}
def cj (g : Bool) (k : Nat) (g2 : Bool) (j : Nat) : Nat := if g2 = true then (if g = true then 2 * k + 4 - j else j + 2 * k) % 4 else if g = true then (4 - j) % 4 else j
variable {g : Bool} {k : Nat} {dx dy : Int}
def HF (f f' : Int → Int → Int) (g : Bool) (k : Nat) (dx dy : Int) : Prop := ∀ x y, f' ((trn g x y k).1 + dx) ((trn g x y k).2 + dy) = f x y
def cb (g : Bool) (k : Nat) (dx dy : Int) (g2 : Bool) (j : Nat) (a b : Int) : Int := (trn g a b k).2 + dy - (trn g2 dx dy (cj g k g2 j)).2
end
end Go.Proofs.Ytddbmckbankmeaa
set_option linter.unusedVariables false
set_option linter.unusedSimpArgs false
namespace Go.Proofs.Ytddbmckbankmeaa
open Go.RowKit
theorem run_storeF {P : Program} {a : Addr} {m : Mode} {w : World} (fn : Fn) (first captured : Array Value) : (store a (.func fn first captured) m).run P w = stored P w a (.func fn first captured) m := run_store P w a _ m rfl
attribute [local go_sem] run_storeF
section
variable {Q : Exit → Act → World → Prop} {o : Oper} {a : Act} {w : World} {d : Nat} {g off : Nat} {x y z zz : Operand} {ty : TypeId} {b b1 b2 b3 b4 : Int} {c c0 c1 c2 : Bool} {A : Option Addr} {n k : Nat} {m i j : Int} {fv u : Value} {fn : Fn} {fx fy : Array Value}
theorem op_mkF1 {f : FuncId} {v : Value} (ho : o.op = .makeFunc (.func f) #[] #[x]) (h0 : a.eval x = v) (w : World) : (execOp a.eval o).run Try.prog w = .ok (.value (.func (.func f) #[] #[v])) w := by
  generalize a.eval = ev at h0 ⊢
  unfold execOp
  simp only [ho]
  simp [go_sem, h0]
end
def perG (W H : Int) : Nat → Int → Int
  | 0, n => n
  | k + 1, n => if n % H = 0 then n else perG W H k (n + W)
def perN (W H : Int) : Int := perG W H 8 W
theorem perG_step {W H : Int} (k : Nat) {n : Int} (h : n % H ≠ 0) : perG W H (k + 1) n = perG W H k (n + W) := by
  show (if n % H = 0 then n else _) = _
  rw [if_neg h]
theorem perG_end {W H : Int} (k : Nat) {n : Int} (h : n % H = 0) : perG W H k n = n := by
  cases k with
  | zero => rfl
  | succ k =>
    show (if n % H = 0 then n else _) = _
    rw [if_pos h]
theorem per_ends {W H : Int} (hW : 1 ≤ W ∧ W ≤ 6) (hH : 1 ≤ H ∧ H ≤ 6) {q : Nat} (hq : q ≤ 5) (hno : ∀ j : Nat, j < q → (W + W * j) % H ≠ 0) (h2 : (W + W * q) % H ≠ 0) : q < 5 := by
  obtain ⟨a, rfl⟩ : ∃ a : Nat, W = a := ⟨W.toNat, by omega⟩
  obtain ⟨b, rfl⟩ : ∃ b : Nat, H = b := ⟨H.toNat, by omega⟩
  have h : ∀ a : Fin 7, ∀ b : Fin 7, 1 ≤ (b : Nat) → ∃ j : Fin 6, (((a : Nat) : Int) + ((a : Nat) : Int) * ((j : Nat) : Int)) % ((b : Nat) : Int) = 0 := by decide
  obtain ⟨j, hj⟩ := h ⟨a, by omega⟩ ⟨b, by omega⟩ (by show 1 ≤ b; omega)
  have hj2 := j.2
  by_cases h3 : (j : Nat) < q
  · exact absurd hj (hno _ h3)
  by_cases h4 : (j : Nat) = q
  · rw [h4] at hj
    exact absurd hj h2
  omega
end Go.Proofs.Ytddbmckbankmeaa
set_option linter.unusedVariables false
set_option linter.unusedSimpArgs false
namespace Go.Proofs.Ytddbmckbankmeaa
open Go.RowKit
def PerAt (W H : Int) (q : Nat) (m : Int) : Prop := q ≤ 5 ∧ m = W + W * q ∧ (∀ j : Nat, j < q → (W + W * j) % H ≠ 0) ∧ perN W H = perG W H (8 - q) m
section
variable {W H m : Int} {q : Nat}
theorem PerAt.start : PerAt W H 0 W := ⟨by omega, by simp, fun j hj => by omega, rfl⟩
theorem PerAt.step (h : PerAt W H q m) (hW : 1 ≤ W ∧ W ≤ 6) (hH : 1 ≤ H ∧ H ≤ 6) (hne : m % H ≠ 0) : PerAt W H (q + 1) (m + W) := by
  obtain ⟨h1, h2, h3, h4⟩ := h
  have hq := per_ends hW hH h1 h3 (by rw [← h2]; exact hne)
  refine ⟨by omega, ?_, fun j hj => ?_, ?_⟩
  · rw [h2, Int.natCast_add, Int.mul_add]
    simp
    omega
  · by_cases e : j = q
    · rw [e, ← h2]
      exact hne
    exact h3 j (by omega)
  rw [h4, show 8 - q = (8 - (q + 1)) + 1 by omega, perG_step _ hne]
theorem PerAt.stop (h : PerAt W H q m) (he : m % H = 0) : perN W H = m := by rw [h.2.2.2, perG_end _ he]
end
def SymR (f : Int → Int → Int) (g : Bool) (k : Nat) (a b n : Int) (x y : Nat) : Prop := ∀ p q : Int, 0 ≤ p → 0 ≤ q → q < n → (p < x ∨ (p = x ∧ q < y)) → f ((trn g p q k).1 + a) ((trn g p q k).2 + b) = f p q
section
variable {f : Int → Int → Int} {g : Bool} {k : Nat} {a b n : Int} {x y : Nat}
theorem SymR.start : SymR f g k a b n 0 0 := fun p q h1 h2 h3 h4 => by omega
theorem SymR.cell (h : SymR f g k a b n x y) (he : f ((trn g x y k).1 + a) ((trn g x y k).2 + b) = f x y) : SymR f g k a b n x (y + 1) := fun p q h1 h2 h3 h4 => by
  by_cases e : p = x ∧ q = y
  · rw [e.1, e.2]
    exact he
  exact h p q h1 h2 h3 (by omega)
theorem SymR.row (h : SymR f g k a b n x y) (he : n ≤ y) : SymR f g k a b n (x + 1) 0 := fun p q h1 h2 h3 h4 => h p q h1 h2 h3 (by omega)
theorem SymR.all (h : SymR f g k a b n x 0) (he : n ≤ x) : SymN n f g k a b := fun p q h1 h2 h3 h4 => h p q h1 h3 h4 (by omega)
end
def NoR (f : Int → Int → Int) (g : Bool) (k : Nat) (n : Int) (x y : Nat) : Prop := ∀ p q : Int, 0 ≤ p → 0 ≤ q → q < n → (p < x ∨ (p = x ∧ q < y)) → ¬ Sym f g k p q
section
variable {f : Int → Int → Int} {g : Bool} {k : Nat} {n : Int} {x y : Nat}
theorem NoR.start : NoR f g k n 0 0 := fun p q h1 h2 h3 h4 => by omega
theorem NoR.cell (h : NoR f g k n x y) (he : ¬ Sym f g k x y) : NoR f g k n x (y + 1) := fun p q h1 h2 h3 h4 => by
  by_cases e : p = x ∧ q = y
  · rw [e.1, e.2]
    exact he
  exact h p q h1 h2 h3 (by omega)
theorem NoR.row (h : NoR f g k n x y) (he : n ≤ y) : NoR f g k n (x + 1) 0 := fun p q h1 h2 h3 h4 => h p q h1 h2 h3 (by omega)
theorem NoR.all (h : NoR f g k n x 0) (he : n ≤ x) (hn : 0 < n) (hp : Per n f) : ¬ Ex f g k := fun hs => by
  obtain ⟨p, q, hw, hs⟩ := (ex_win hn hp).2 hs
  exact h p q hw.1.1 hw.2.1 hw.2.2 (by omega) hs
end
end Go.Proofs.Ytddbmckbankmeaa
set_option linter.unusedVariables false
set_option linter.unusedSimpArgs false
namespace Go.Proofs.Ytddbmckbankmeaa
open Go.RowKit
theorem getD_set {bs : List Bool} {i j : Nat} {b : Bool} (hi : i < bs.length) : (bs.set i b).getD j false = if i = j then b else bs.getD j false := by
  rw [List.getD_eq_getElem?_getD, List.getD_eq_getElem?_getD, List.getElem?_set]
  split
  · next h =>
    subst h
    simp [hi]
  rfl
theorem idx_ok {n x y : Int} (hx : 0 ≤ x ∧ x < n) (hy : 0 ≤ y ∧ y < n) : (0 ≤ x * n ∧ x * n ≤ n * n) ∧ 0 ≤ x * n + y ∧ x * n + y < n * n := by
  have h1 := Int.mul_nonneg hx.1 (show 0 ≤ n by omega)
  have h2 := Int.mul_le_mul_of_nonneg_right (show x ≤ n - 1 by omega) (show 0 ≤ n by omega)
  rw [Int.sub_mul, Int.one_mul] at h2
  omega
def SymL (f : Int → Int → Int) (g : Bool) (k : Nat) (n : Int) (bs : List Bool) (x y : Nat) : Prop :=
  (bs.length : Int) = n * n ∧ ∀ p q : Int, 0 ≤ p → p < n → 0 ≤ q → q < n → (p < x ∨ (p = x ∧ q < y)) → bs.getD (p * n + q).toNat false = bP (Sym f g k p q)
section
variable {f : Int → Int → Int} {g : Bool} {k : Nat} {n : Int} {bs : List Bool} {x y : Nat}
theorem SymL.start {N : Nat} (h : n * n = (N : Int)) : SymL f g k n (List.replicate N false) 0 0 := ⟨by rw [List.length_replicate, h], fun p q h1 h2 h3 h4 h5 => by omega⟩
theorem SymL.cell (h : SymL f g k n bs x y) (hx : (x : Int) < n) (hy : (y : Int) < n) : SymL f g k n (bs.set ((x : Int) * n + (y : Int)).toNat (bP (Sym f g k x y))) x (y + 1) := by
  obtain ⟨hl, h⟩ := h
  have hi := idx_ok (n := n) (x := x) (y := y) (by omega) (by omega)
  refine ⟨by rw [List.length_set, hl], fun p q h1 h2 h3 h4 h5 => ?_⟩
  have hj := idx_ok (n := n) (x := p) (y := q) (by omega) (by omega)
  rw [getD_set (by omega)]
  split
  · next e =>
    have := num_digits (H := n) (W := n) (a := p) (b := x) (x := q) (y := y) (by omega) (by omega) (by omega)
    rw [this.1, this.2]
  next e => exact h p q h1 h2 h3 h4 (by
    by_cases e2 : p = x ∧ q = y
    · rw [e2.1, e2.2] at e
      exact absurd rfl e
    omega)
theorem SymL.row (h : SymL f g k n bs x y) (he : n ≤ y) : SymL f g k n bs (x + 1) 0 := ⟨h.1, fun p q h1 h2 h3 h4 h5 => h.2 p q h1 h2 h3 h4 (by omega)⟩
theorem SymL.at_ (h : SymL f g k n bs x y) {p q : Int} (hp : 0 ≤ p ∧ p < n) (hq : 0 ≤ q ∧ q < n) (hx : p < x ∨ (p = x ∧ q < y)) : bs.getD (p * n + q).toNat false = bP (Sym f g k p q) := h.2 p q hp.1 hp.2 hq.1 hq.2 hx
def Em (f : Int → Int → Int) (g : Bool) (k : Nat) (n : Int) (e : Bool) (x y : Nat) : Prop := e = true ↔ NoR f g k n x y
theorem Em.start : Em f g k n true 0 0 := ⟨fun _ => NoR.start, fun _ => rfl⟩
theorem Em.cell {e : Bool} (h : Em f g k n e x y) (hy : (y : Int) < n) : Em f g k n (e && !bP (Sym f g k x y)) x (y + 1) := by
  unfold Em at h ⊢
  rw [Bool.and_eq_true, h, bP_not, bP_true]
  exact ⟨fun ⟨h1, h2⟩ => h1.cell h2, fun h1 => ⟨fun p q a1 a2 a3 a4 => h1 p q a1 a2 a3 (by omega), h1 x y (by omega) (by omega) hy (by omega)⟩⟩
theorem Em.row {e : Bool} (h : Em f g k n e x y) (he : n ≤ y) : Em f g k n e (x + 1) 0 := by
  unfold Em at h ⊢
  rw [h]
  exact ⟨fun h1 => h1.row he, fun h1 p q a1 a2 a3 a4 => h1 p q a1 a2 a3 (by omega)⟩
theorem Em.all {e : Bool} (h : Em f g k n e x 0) (he : n ≤ x) (hn : 0 < n) (hp : Per n f) : e = bP (¬ Ex f g k) :=
  bP_of ⟨fun h1 => (h.1 h1).all he hn hp, fun h1 => h.2 (fun p q _ _ _ _ hs => h1 ⟨p, q, hs⟩)⟩
end
def Mk (f : Int → Int → Int) (k : Nat) (n : Int) (Z : Int → Prop) (bs : List Bool) (a b : Int) : Prop :=
  (bs.length : Int) = 2 * n ∧ ∀ i : Int, 0 ≤ i → i < 2 * n → (bs.getD i.toNat false = true ↔ ∃ p q, Win2 n p q ∧ (p < a ∨ (p = a ∧ q < b)) ∧ Sym f true k p q ∧ axi k p q = i ∧ Z (far k p q))
section
variable {f : Int → Int → Int} {k : Nat} {n a b : Int} {Z : Int → Prop} {bs : List Bool}
theorem Mk.start {N : Nat} (h : 2 * n = (N : Int)) : Mk f k n Z (List.replicate N false) (-2 * n) (-2 * n) := ⟨by rw [List.length_replicate, h], fun i h1 h2 => ⟨fun h3 => by
    rw [List.getD_eq_getElem?_getD, List.getElem?_replicate] at h3
    split at h3 <;> simp at h3, fun ⟨p, q, hw, h3, _⟩ => by unfold Win2 at hw; omega⟩⟩
theorem Mk.skip (h : Mk f k n Z bs a b) (hno : ¬ (Sym f true k a b ∧ (0 ≤ axi k a b ∧ axi k a b < 2 * n) ∧ Z (far k a b))) : Mk f k n Z bs a (b + 1) := ⟨h.1, fun i h1 h2 => by
  rw [h.2 i h1 h2]
  constructor
  · rintro ⟨p, q, hw, h3, h4⟩
    exact ⟨p, q, hw, by omega, h4⟩
  rintro ⟨p, q, hw, h3, h4, h5, h6⟩
  refine ⟨p, q, hw, ?_, h4, h5, h6⟩
  by_cases e : p = a ∧ q = b
  · obtain ⟨rfl, rfl⟩ := e
    exact absurd ⟨h4, by omega, h6⟩ hno
  omega⟩
theorem Mk.row (h : Mk f k n Z bs a b) (hb : 2 * n ≤ b) : Mk f k n Z bs (a + 1) (-2 * n) := ⟨h.1, fun i h1 h2 => by
  rw [h.2 i h1 h2]
  constructor
  · rintro ⟨p, q, hw, h3, h4⟩
    exact ⟨p, q, hw, by omega, h4⟩
  rintro ⟨p, q, hw, h3, h4⟩
  refine ⟨p, q, hw, ?_, h4⟩
  unfold Win2 at hw
  omega⟩
theorem Mk.all (h : Mk f k n Z bs a b) (ha : 2 * n ≤ a) {i : Int} (h1 : 0 ≤ i) (h2 : i < 2 * n) : bs.getD i.toNat false = true ↔ ∃ p q, Win2 n p q ∧ Sym f true k p q ∧ axi k p q = i ∧ Z (far k p q) := by
  rw [h.2 i h1 h2]
  constructor
  · rintro ⟨p, q, hw, h3, h4⟩
    exact ⟨p, q, hw, h4⟩
  rintro ⟨p, q, hw, h4⟩
  refine ⟨p, q, hw, ?_, h4⟩
  unfold Win2 at hw
  omega
end
def Met (P : Nat → Prop) (m : Bool) (i : Nat) : Prop := m = true ↔ ∃ j, j < i ∧ P j
section
variable {P : Nat → Prop} {m : Bool} {i : Nat}
theorem Met.start : Met P false 0 := ⟨fun h => (by cases h), fun ⟨j, hj, _⟩ => (by omega)⟩
theorem Met.keep (h : Met P true i) : Met P true (i + 1) := ⟨fun _ => let ⟨j, h1, h2⟩ := h.1 rfl; ⟨j, by omega, h2⟩, fun _ => rfl⟩
theorem Met.no (h : Met P false i) (hn : ¬ P i) : Met P false (i + 1) := by
  refine ⟨fun h => (by cases h), ?_⟩
  rintro ⟨j, h1, h2⟩
  by_cases e : j = i
  · rw [e] at h2
    exact absurd h2 hn
  exact h.2 ⟨j, by omega, h2⟩
end
end Go.Proofs.Ytddbmckbankmeaa
