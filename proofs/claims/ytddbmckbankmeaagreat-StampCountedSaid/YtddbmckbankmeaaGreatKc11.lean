/- Part 11 of the texts behind this claim. -/
import Derived.Test.YtddbmckbankmeaaGreatKc10
set_option linter.unusedVariables false
set_option linter.unusedSimpArgs false
set_option linter.unusedSectionVars false
set_option linter.unnecessarySimpa false
namespace Go.Proofs.YtddbmckbankmeaaGreat
open Go.RowKit
section
variable {w w' : World} {g o : Nat} {t : TypeId} {W H : Int} {ts : List Sl} {rest cs us : List Value} {s : Sl} {j : Nat}
theorem encT_len (W H : Int) (s : Sl) : (encT W H s).length = 3 := rfl
theorem tcells_at : ∀ {ts : List Sl} {j : Nat} {s : Sl}, ts[j]? = some s → ∀ q, q < 3 → (ts.flatMap (encT W H) ++ rest)[j * 3 + q]? = (encT W H s)[q]?
 | [], _, _, h, _, _ => by cases h
 | a :: ts, 0, s, h, q, hq => by
  obtain rfl : a = s := by simpa using h
  rw [List.flatMap_cons, List.append_assoc, List.getElem?_append_left (by rw [encT_len]; omega), Nat.zero_mul, Nat.zero_add]
 | a :: ts, j + 1, s, h, q, hq => by
  have h' : ts[j]? = some s := by simpa using h
  rw [List.flatMap_cons, List.append_assoc, List.getElem?_append_right (by rw [encT_len]; omega), encT_len, show (j + 1) * 3 + q - 3 = j * 3 + q by omega]; exact tcells_at h' q hq
theorem tcell_ld (h : Blk w g t (ts.flatMap (encT W H) ++ rest)) (hj : ts[j]? = some s) :
  w.cell? ⟨g, j * 3, none⟩ = some (.int .i64 W) ∧ w.cell? ⟨g, j * 3 + 1, none⟩ = some (.int .i64 H) ∧ w.cell? ⟨g, j * 3 + 2, none⟩ = some (.slice s.A s.xs.length s.k) := by
 rw [h.cell, h.cell, h.cell]; exact ⟨tcells_at (W := W) (H := H) (rest := rest) hj 0 (by omega), tcells_at hj 1 (by omega), tcells_at hj 2 (by omega)⟩
theorem tcells_len (l : List Sl) : (l.flatMap (encT W H)).length = l.length * 3 := flat_len (enc := encT W H) (k := 3) (fun _ => rfl) l
theorem blk_setCells : ∀ (vs : List Value) (w : World) (ps us rs : List Value), us.length = vs.length → Blk w g t (ps ++ us ++ rs) → Blk (w.setCells g ps.length vs) g t (ps ++ vs ++ rs)
 | [], w, ps, us, rs, hl, k => by
  obtain rfl : us = [] := List.eq_nil_of_length_eq_zero (by simpa using hl); exact k
 | v :: vs, w, ps, us, rs, hl, k => by
  obtain ⟨u, us, rfl⟩ : ∃ u l, us = u :: l := by
   cases us with
   | nil => simp at hl
   | cons u l => exact ⟨u, l, rfl⟩
  have k1 := k.set_ ps.length v; have e1 : (ps ++ u :: us ++ rs).set ps.length v = (ps ++ [v]) ++ us ++ rs := by simp
  rw [e1] at k1; have k2 := blk_setCells vs _ (ps ++ [v]) us rs (by simpa using hl) k1; rw [List.length_append, List.length_singleton] at k2; show Blk (World.setCells _ g (ps.length + 1) vs) g t _; rw [show ps ++ v :: vs ++ rs = (ps ++ [v]) ++ vs ++ rs by simp]; exact k2
theorem setCells_by : ∀ (vs : List Value) (w : World) (o : Nat), w.grownBy (w.setCells g o vs) (some g)
 | [], w, o => World.grownBy.refl w _
 | v :: vs, w, o => by
  have h := setCells_by vs (w.setCell ⟨g, o, none⟩ v) (o + 1); refine ⟨h.os, h.tape, h.output, by have := h.size; simpa [World.setCell] using this, fun q hq hne => ?_⟩; have h2 := h.block q (by simpa [World.setCell] using hq) hne; exact h2.trans (Below.heap_setCell w ⟨g, o, none⟩ v q (fun e => hne (by rw [e])))
theorem grown_trans {w1 w2 : World} {r : Option Nat} (h : w.grownBy w1 r) (k : w1.grownBy w2 r) : w.grownBy w2 r :=
 ⟨k.os.trans h.os, k.tape.trans h.tape, k.output.trans h.output, Nat.le_trans h.size k.size, fun q hq hne => (k.block q (Nat.lt_of_lt_of_le hq h.size) hne).trans (h.block q hq hne)⟩
theorem grown_bel {w1 w2 : World} {r : Option Nat} (h : w.grownBy w1 r) (k : Below w1.heap.size w1 w2) : w.grownBy w2 r :=
 ⟨k.os.trans h.os, k.tape.trans h.tape, k.output.trans h.output, Nat.le_trans h.size k.size, fun q hq hne => (k.block q (Nat.lt_of_lt_of_le hq h.size)).trans (h.block q hq hne)⟩
theorem bel_grown {r : Option Nat} (k : Below w.heap.size w w') : w.grownBy w' r := ⟨k.os, k.tape, k.output, k.size, fun q hq _ => k.block q hq⟩
theorem run_cells {P : Program} {vs : List Value} (h : Blk w g t cs) (hq : o + vs.length ≤ cs.length) (h1 : ∀ v ∈ vs, v.oneCell' = true) : (storeCells ⟨g, o, none⟩ vs 0).run P w = .ok () (w.setCells g o vs) := by
 have := run_storeCells_cells (P := P) g o vs 0 w (fun j hj => by rw [Nat.add_zero, h.cell, List.getElem?_eq_getElem (by omega)]; rfl) (fun j hj => h.frozen _) h1; rwa [Nat.add_zero] at this
theorem sto_vT {A : Option Addr} {n k : Nat} (h : Blk w g t cs) (hq : o + 3 ≤ cs.length) : (Instr.storeAt 43 (.pointer (some ⟨g, o, none⟩)) (.agg #[.int .i64 W, .int .i64 H, .slice A n k])).run Tryz.prog w = .ok () (w.setCells g o [.int .i64 W, .int .i64 H, .slice A n k]) := by
 have h0 : w.cell? ⟨g, o, none⟩ = some cs[o] := (h.cell o).trans (List.getElem?_eq_getElem (by omega)); have h1 : w.cell? ⟨g, o + 1, none⟩ = some cs[o + 1] := (h.cell (o + 1)).trans (List.getElem?_eq_getElem (by omega)); have h2 : w.cell? ⟨g, o + 2, none⟩ = some cs[o + 2] := (h.cell (o + 2)).trans (List.getElem?_eq_getElem (by omega)); have f0 := h.frozen o; have f1 := h.frozen (o + 1); have f2 := h.frozen (o + 2); simp only [World.setCells]; simp [go_sem, h0, h1, h2, f0, f1, f2]
theorem put_list (h : Blk w g t (ts.flatMap (encT W H) ++ rest)) (hj : j < ts.length) : Blk (w.setCells g (j * 3) (encT W H s)) g t ((ts.set j s).flatMap (encT W H) ++ rest) := by
 have e1 : ts.flatMap (encT W H) ++ rest = (ts.take j).flatMap (encT W H) ++ encT W H ts[j] ++ ((ts.drop (j + 1)).flatMap (encT W H) ++ rest) := by
  have e0 : ts = ts.take j ++ ts[j] :: ts.drop (j + 1) := by rw [← List.drop_eq_getElem_cons hj, List.take_append_drop]
  rw [congrArg (List.flatMap (encT W H)) e0, List.flatMap_append, List.flatMap_cons]; simp only [List.append_assoc]
 have e2 : (ts.set j s).flatMap (encT W H) ++ rest = (ts.take j).flatMap (encT W H) ++ encT W H s ++ ((ts.drop (j + 1)).flatMap (encT W H) ++ rest) := by
  rw [List.set_eq_take_append_cons_drop, if_pos hj]; simp [List.flatMap_append]
 rw [e1] at h; rw [e2]; have hl : ((ts.take j).flatMap (encT W H)).length = j * 3 := by rw [tcells_len, List.length_take, Nat.min_eq_left (by omega)]
 have := blk_setCells (encT W H s) w _ (encT W H ts[j]) _ rfl h; rwa [hl] at this
end
section
variable {Q : Exit → Act → World → Prop} {o : Oper} {a : Act} {w : World} {d g j n k i : Nat} {x y : Operand} {t : TypeId} {W H : Int} {ts : List Sl} {rest : List Value} {s : Sl}
theorem op_idxT {b : Nat} (h1 : j < n) (ho : o.op = .indexAddr 31 x y) (hx : a.eval x = .slice (some ⟨g, b, none⟩) n k) (hy : a.eval y = .int .i64 (j : Int)) (w : World) : (execOp a.eval o).run Tryz.prog w = .ok (.value (.pointer (some ⟨g, b + j * 3, none⟩))) w := by
 have e : (⟨g, b, none⟩ : Addr).add (j * 3) = ⟨g, b + j * 3, none⟩ := by unfold Addr.add; split <;> simp_all
 generalize a.eval = ev at hx hy ⊢; unfold execOp; simp only [ho, hx, hy]; simp [go_sem, h1, e]
theorem op_ldvT {A : Option Addr} {m c q : Nat} (ho : o.op = .load 43 x) (hd : o.dst = some d) (hx : a.eval x = .pointer (some ⟨g, q, none⟩))
  (h : w.cell? ⟨g, q, none⟩ = some (.int .i64 W) ∧ w.cell? ⟨g, q + 1, none⟩ = some (.int .i64 H) ∧ w.cell? ⟨g, q + 2, none⟩ = some (.slice A m c)) :
  o.wp Tryz.prog a w (Post a w d (isV (.agg #[.int .i64 W, .int .i64 H, .slice A m c])).p) Q := by
 obtain ⟨h0, h1, h2⟩ := h; refine op_load (v := .agg #[.int .i64 W, .int .i64 H, .slice A m c]) ho hd hx ?_ rfl; simp [go_sem, h0, h1, h2]
theorem op_lenT {A : Option Addr} (ho : o.op = .call { callee := .builtin .len, args := #[x], argTypes := #[31] }) (hd : o.dst = some d) (hx : a.eval x = .slice A n k) : o.wp Tryz.prog a w (Post a w d (isV (.int .i64 ((n : Nat) : Int))).p) Q := by
 refine op_run (v := .int .i64 (n : Int)) hd ?_ rfl; generalize a.eval = ev at hx ⊢; unfold execOp; simp only [ho]; simp [go_sem, hx]
theorem op_fromT (hi : i < n) (hk : n ≤ k) (ho : o.op = .slice 31 x (some y) none none) (hx : a.eval x = .slice (some ⟨g, 0, none⟩) n k) (hy : a.eval y = .int .i64 (i : Int)) (w : World) : (execOp a.eval o).run Tryz.prog w = .ok (.value (.slice (some ⟨g, i * 3, none⟩) (n - i) (k - i))) w := by
 have e : (⟨g, 0, none⟩ : Addr).add (i * 3) = ⟨g, i * 3, none⟩ := by unfold Addr.add; split <;> simp_all
 generalize a.eval = ev at hx hy ⊢; unfold execOp; simp only [ho, Option.map_some, Option.map_none, hx, hy]; have h1 : (i : Int) ≤ (n : Int) := by omega
 have h2 : (n : Int) ≤ (k : Int) := by omega
 have h3 : ¬ k = i := by omega
 simp [go_sem, h1, h2, h3, e]
theorem run_clearT {ty : TypeId} {cs : List Value} {q m c : Nat} (hm : 0 < m) (h : Blk w g t cs) (hq : q + m * 3 ≤ cs.length) : ∃ vs : List Value, vs.length = m * 3 ∧ (Builtin.clear_ #[31] ty #[.slice (some ⟨g, q, none⟩) m c]).run Tryz.prog w = .ok (.tuple #[]) (w.setCells g q vs) := by
 have hz := Tryz.zeroValue43 w; let z : Value := .agg #[.int .i64 0, .int .i64 0, .slice none 0 0]
 have hzs : z.cells = #[.int .i64 0, .int .i64 0, .slice none 0 0] := rfl; have hl : (Builtin.zeroCells z.cells m).toList.length = m * 3 := by rw [hzs]; simp [Builtin.zeroCells]
 refine ⟨(Builtin.zeroCells z.cells m).toList, hl, ?_⟩
 have h2 := run_cells (P := Tryz.prog) (o := q) (vs := (Builtin.zeroCells z.cells m).toList) h (by rw [hl]; exact hq) (by
  intro v hv; rw [hzs] at hv; simp only [Builtin.zeroCells, Array.toList_map, List.mem_map, Array.toList_range, List.mem_range] at hv; obtain ⟨i, hi, rfl⟩ := hv; have h3 : i % (#[Value.int .i64 0, Value.int .i64 0, Value.slice none 0 0] : Array Value).size < 3 := Nat.mod_lt _ (by decide); generalize i % (#[Value.int .i64 0, Value.int .i64 0, Value.slice none 0 0] : Array Value).size = r at h3 ⊢; rcases r with _ | _ | _ | r
  ·rfl
  ·rfl
  ·rfl
  omega)
 cases m with
 | zero => omega
 | succ m =>
  unfold Builtin.clear_; simp [run_underlying Tryz.underlying31, hz, h2, z] at *
end
def xsn (ts : List Sl) (i : Nat) : List Int := (ts.getD i default).xs
def ddN (ts : List Sl) : Nat → List Sl
 | 0 => []
 | 1 => [ts.getD 0 default]
 | j + 2 => if xsn ts (j + 1) = xsn ts j then ddN ts (j + 1) else ddN ts (j + 1) ++ [ts.getD (j + 1) default]
theorem xsn_of {ts : List Sl} {i : Nat} {s : Sl} (h : ts[i]? = some s) : xsn ts i = s.xs := by simp [xsn, List.getD_eq_getElem?_getD, h]
theorem ddN_dup {ts : List Sl} {j : Nat} (hj : 1 ≤ j) (h : xsn ts j = xsn ts (j - 1)) : ddN ts (j + 1) = ddN ts j := by
 obtain ⟨j, rfl⟩ : ∃ q, j = q + 1 := ⟨j - 1, by omega⟩; rw [ddN]; exact if_pos h
theorem ddN_new {ts : List Sl} {j : Nat} (hj : 1 ≤ j) (h : xsn ts j ≠ xsn ts (j - 1)) : ddN ts (j + 1) = ddN ts j ++ [ts.getD j default] := by
 obtain ⟨j, rfl⟩ : ∃ q, j = q + 1 := ⟨j - 1, by omega⟩; rw [ddN]; exact if_neg h
theorem ddN_all {ts : List Sl} : ∀ {j : Nat}, j ≤ ts.length → (∀ i, 1 ≤ i → i < j → xsn ts i ≠ xsn ts (i - 1)) → ddN ts j = ts.take j
 | 0, _, _ => by simp [ddN]
 | 1, hl, _ => by
  cases ts with
  | nil => simp at hl
  | cons a l => simp [ddN]
 | j + 2, hl, h => by
  rw [ddN_new (j := j + 1) (by omega) (h (j + 1) (by omega) (by omega)), ddN_all (by omega) (fun i h1 h2 => h i h1 (by omega)), List.take_add_one (i := j + 1), List.getD_eq_getElem?_getD, List.getElem?_eq_getElem (by omega)]; rfl
theorem ddN_short {ts : List Sl} (h : ts.length < 2) : ddN ts ts.length = ts := by
 rw [ddN_all (Nat.le_refl _) (fun i h1 h2 => by omega), List.take_length]
structure Ci (ts : List Sl) (j k : Nat) (cur : List Sl) : Prop where
 len : cur.length = ts.length
 low : cur.take k = ddN ts j
 num : k = (ddN ts j).length
 lt : k < j
 high : ∀ i, j ≤ i + 1 → cur[i]? = ts[i]?
theorem Ci.start {ts : List Sl} {k : Nat} (hk : k < ts.length) (hk1 : 1 ≤ k) (h : ∀ i, 1 ≤ i → i < k → xsn ts i ≠ xsn ts (i - 1)) (hd : xsn ts k = xsn ts (k - 1)) : Ci ts (k + 1) k ts := by
 have e := ddN_all (by omega) h; refine ⟨rfl, by rw [ddN_dup hk1 hd, e], by rw [ddN_dup hk1 hd, e, List.length_take]; omega, by omega, fun _ _ => rfl⟩
theorem Ci.skip {ts cur : List Sl} {j k : Nat} (h : Ci ts j k cur) (hj : 1 ≤ j) (hd : xsn ts j = xsn ts (j - 1)) : Ci ts (j + 1) k cur :=
 ⟨h.len, by rw [ddN_dup hj hd]; exact h.low, by rw [ddN_dup hj hd]; exact h.num, by have := h.lt; omega, fun i hi => h.high i (by omega)⟩
theorem Ci.keep {ts cur : List Sl} {j k : Nat} {s : Sl} (h : Ci ts j k cur) (hj : 1 ≤ j) (hs : ts[j]? = some s) (hd : xsn ts j ≠ xsn ts (j - 1)) : Ci ts (j + 1) (k + 1) (cur.set k s) := by
 have hlt := h.lt; have hjl : j < ts.length := (List.getElem?_eq_some_iff.1 hs).1; have e : ts.getD j default = s := by rw [List.getD_eq_getElem?_getD, hs]; rfl
 refine ⟨by rw [List.length_set]; exact h.len, ?_, by rw [ddN_new hj hd, List.length_append, ← h.num]; rfl, by omega, fun i hi => by rw [List.getElem?_set_ne (by omega)]; exact h.high i (by omega)⟩; rw [ddN_new hj hd, e, ← h.low, List.take_add_one, List.getElem?_set_self (by rw [h.len]; omega), List.take_set_of_le (Nat.le_refl _)]; rfl
theorem Ci.done {ts cur : List Sl} {k : Nat} (h : Ci ts ts.length k cur) : cur = ddN ts ts.length ++ cur.drop k := by
 rw [← h.low, List.take_append_drop]
theorem ddN_mem {ts : List Sl} : ∀ {j : Nat}, j ≤ ts.length → ∀ s ∈ ddN ts j, s ∈ ts
 | 0, _, s, h => by cases h
 | 1, hl, s, h => by
  cases ts with
  | nil => simp at hl
  | cons a l => simp [ddN] at h; simp [h]
 | j + 2, hl, s, h => by
  rw [ddN] at h; split at h
  ·exact ddN_mem (by omega) s h
  rcases List.mem_append.1 h with h | h
  ·exact ddN_mem (by omega) s h
  rw [List.mem_singleton.1 h, List.getD_eq_getElem?_getD, List.getElem?_eq_getElem (by omega)]; exact List.getElem_mem _
theorem Sl.ok.to {w w' : World} {s : Sl} (h : s.ok w) (hb : Below w.heap.size w w') : s.ok w' := ⟨h.1.to hb, h.2⟩
theorem clear_row {w : World} {g k c : Nat} {ty : TypeId} {W H : Int} {ts cur : List Sl} {rest : List Value} (h : Ci ts ts.length k cur) (hb : Blk w g 43 (cur.flatMap (encT W H) ++ rest)) :
  ∃ vs rest', (∀ ty, (Builtin.clear_ #[31] ty #[.slice (some ⟨g, k * 3, none⟩) (ts.length - k) c]).run Tryz.prog w = .ok (.tuple #[]) (w.setCells g (k * 3) vs)) ∧ Blk (w.setCells g (k * 3) vs) g 43 ((ddN ts ts.length).flatMap (encT W H) ++ rest') := by
 have hl : (cur.flatMap (encT W H)).length = ts.length * 3 := by rw [tcells_len, h.len]
 have hlt := h.lt; have hn := h.num; have key : ∀ ty, ∃ vs : List Value, vs.length = (ts.length - k) * 3 ∧ (Builtin.clear_ #[31] ty #[.slice (some ⟨g, k * 3, none⟩) (ts.length - k) c]).run Tryz.prog w = .ok (.tuple #[]) (w.setCells g (k * 3) vs) := fun ty => run_clearT (by omega) hb (by rw [List.length_append, hl]; omega)
 obtain ⟨vs, hvl, hrun⟩ := key 0; refine ⟨vs, vs ++ rest, fun ty => hrun, ?_⟩; have e := h.done
 have e1 : cur.flatMap (encT W H) ++ rest = (ddN ts ts.length).flatMap (encT W H) ++ (cur.drop k).flatMap (encT W H) ++ rest := by
  conv => lhs; rw [e]
  rw [List.flatMap_append]
 rw [e1] at hb; have := blk_setCells vs w _ _ _ (by rw [tcells_len, List.length_drop, h.len, hvl]) hb; rw [tcells_len, ← hn] at this; rw [List.append_assoc] at this; exact this
section
variable {P : Program} {Q : Exit → Act → World → Prop} {o : Oper} {a : Act} {w : World} {d : Nat} {R : Value → World → Prop} {f : Nat} {x1 x2 y : Operand} {ts : Array TypeId}
theorem op_callv2 (hy : a.eval y = .func (.func f) #[] #[]) (ho : o.op = .call { callee := .value y, args := #[x1, x2], argTypes := ts }) (hd : o.dst = some d)
  (hcf : ∀ args w, (callFunc f args).run P w = .ok (.enter f args) w) (hc : Calls P f #[a.eval x1, a.eval x2] w (Got w R)) : o.wp P a w (Post a w d R) Q := by
 have key : execOp a.eval o = callFunc f (#[] ++ #[x1, x2].map a.eval ++ #[]) := by
  obtain ⟨dst, op, type, pos, after, guard⟩ := o; simp only at ho; subst ho; unfold execOp; simp only [resolve, hy]; rfl
 unfold Oper.wp; rw [key, hcf]; simp only [Oper.upon, Array.empty_append, Array.append_empty, hd, List.map_toArray, List.map_cons, List.map_nil]; refine hc.mono ?_; rintro e w' ⟨v, rfl, hb, hr⟩; exact ⟨v, rfl, hb, hr⟩
end
theorem cmpT_got (Wd Ht : Int) (s1 s0 : Sl) (w : World) (h1 : RI w s1.A s1.xs) (h0 : RI w s0.A s0.xs) (hl1 : s1.xs.length ≤ 140737488351232) (hl0 : s0.xs.length ≤ 140737488351232) :
  Calls Tryz.prog 32 #[.agg #[.int .i64 Wd, .int .i64 Ht, .slice s1.A s1.xs.length s1.k], .agg #[.int .i64 Wd, .int .i64 Ht, .slice s0.A s0.xs.length s0.k]] w (Got w (isV (.int .i64 (cmpL s1.xs s0.xs))).p) := by
 have h := compare_x Wd Ht Wd Ht s1.A s0.A s1.k s0.k s1.xs s0.xs w h1 h0 hl1 hl0; rw [ordT_same] at h; exact h.mono fun e w' ⟨v, he, hb, hv⟩ => ⟨v, he, hb.b, hv⟩
theorem cmpL_dec (xs ys : List Int) : decide (cmpL xs ys = 0) = decide (xs = ys) := by
 by_cases h : xs = ys
 ·rw [h, cmpL_refl]; simp
 rw [decide_eq_false h, decide_eq_false (fun e => h (cmpL_zero e))]
set_option maxRecDepth 100000 in
set_option maxHeartbeats 1000000 in
theorem Orbit1_got (Wd Ht : Int) (s1 s0 : Sl) (w : World) (hr1 : RI w s1.A s1.xs) (hr0 : RI w s0.A s0.xs) (hl1 : s1.xs.length ≤ 140737488351232) (hl0 : s0.xs.length ≤ 140737488351232) :
  Calls Tryz.prog 90 #[.agg #[.int .i64 Wd, .int .i64 Ht, .slice s1.A s1.xs.length s1.k], .agg #[.int .i64 Wd, .int .i64 Ht, .slice s0.A s0.xs.length s0.k]] w (Got w (isV (.bool (decide (s1.xs = s0.xs)))).p) := by
 have HR1 := Hd.mk hr1; have HR0 := Hd.mk hr0; clear hr1 hr0; go_enter Tryz.func90, Tryz.ntmps90
 go_upto_region 1 with fail
 obtain ⟨W0, hW0⟩ : ∃ W : World, W = (w.alloc (.cells #[.int .i64 Wd, .int .i64 Ht, .slice s1.A s1.xs.length s1.k] 43)).alloc (.cells #[.int .i64 Wd, .int .i64 Ht, .slice s0.A s0.xs.length s0.k] 43) := ⟨_, rfl⟩; rw [← hW0]; obtain ⟨he, hb⟩ := env_two hW0; have HE := Hd.mk he; have HB := Hd.mk hb; clear he hb hW0; refine wp_region_vd 4 [5, 6, 7, 8] [3] [] 63 [.int .i64 0, .int .i64 0] [isV (.agg #[.int .i64 Wd, .int .i64 Ht, .slice s1.A s1.xs.length s1.k]), isV (.agg #[.int .i64 Wd, .int .i64 Ht, .slice s0.A s0.xs.length s0.k]), qI (cmpL s1.xs s0.xs), isV (.bool (decide (s1.xs = s0.xs)))] (by rfl) alloc_Z ?_ ?_
 ·intro qi qh qA aa wx hb hs hd
  match qi, qh, qA with
  | 0, _, _ => exact aL (op_ldT rfl rfl (hs 2 rfl) ((HE.out.to hb).get 0 rfl)) | 1, _, _ => exact aL (op_ldT rfl rfl (hs 3 rfl) ((HE.out.to hb).get 1 rfl)) | 2, _, _ => exact aL (op_call2 rfl rfl Tryz.call32 (by rw [(show aa.eval (.tmp 5) = .agg #[.int .i64 Wd, .int .i64 Ht, .slice s1.A s1.xs.length s1.k] from (hd 0 rfl)), (show aa.eval (.tmp 6) = .agg #[.int .i64 Wd, .int .i64 Ht, .slice s0.A s0.xs.length s0.k] from (hd 1 rfl))]; exact cmpT_got Wd Ht s1 s0 _ (HR1.out.to (bel_then HB.out hb)) (HR0.out.to (bel_then HB.out hb)) hl1 hl0)) | 3, _, _ => exact aL (pure_b (bool_eq (cmpL_dec _ _)) (⟨_, op_eqlI rfl (hd 2 rfl) rfl, rfl⟩)) | qi + 4, h, _ => omega
 intro vs X1 hb hv hal hne; replace HB := Hd.mk (bel_then HB.out hb); replace HE := Hd.mk (HE.out.to hb); have e8 : vs 8 = .bool (decide (s1.xs = s0.xs)) := hv 3 (by decide) rfl; simp only [PA, e8]; clear hv hal hne hb e8; go_wp2_with fail
 go_ret
 exact ⟨_, rfl, HB.out, rfl⟩
set_option maxRecDepth 100000 in
set_option maxHeartbeats 1000000 in
theorem Compact_calls (Wd Ht : Int) (g cap : Nat) (ts : List Sl) (rest : List Value) (w : World) (hb : Blk w g 43 (ts.flatMap (encT Wd Ht) ++ rest)) (hok : ∀ s ∈ ts, s.ok w) (hl : ts.length ≤ 1000000) (hcap : ts.length ≤ cap) (hc2 : cap ≤ 9223372036854775807) :
  Calls Tryz.prog 89 #[.slice (some ⟨g, 0, none⟩) ts.length cap, .func (.func 90) #[] #[]] w fun e w' => ∃ rest', e = .returned (.slice (some ⟨g, 0, none⟩) (ddN ts ts.length).length cap) ∧
   Blk w' g 43 ((ddN ts ts.length).flatMap (encT Wd Ht) ++ rest') ∧ w.grownBy w' (some g) := by
 have HNE : Hd (∀ s ∈ ts, ∀ ad, s.A = some ad → ad.block ≠ g) := ⟨fun s hs ad e => ((hok s hs).1.ne hb (by decide) ad e).1⟩; have HOK0 := Hd.mk hok; have HLT := Hd.mk hb.lt; clear hok; go_enter Tryz.func89, Tryz.ntmps89
 go_upto_region 1 with fail
 have HB : Hd (Below w.heap.size w w) := ⟨Below.refl _ _⟩; have HE : Hd (Env w [⟨g, 43, ts.flatMap (encT Wd Ht) ++ rest⟩]) := ⟨⟨hb, (fun e h => by cases h), trivial⟩⟩; clear hb; by_cases h2 : ts.length < 2
 ·have HD := Hd.mk (ddN_short h2); refine wp_region_vd 3 [8, 9, 10] [0, 2] [] 63 [.int .i64 0, .int .i64 0] [isV (.slice (some ⟨g, 0, none⟩) ts.length cap), qI ((ts.length : Nat) : Int), qT] (by rfl) alloc_Z ?_ ?_
  ·intro qi qh qA aa wx hb hs hd
   match qi, qh, qA with
   | 0, _, _ => exact aL (op_mv rfl (hs 0 rfl)) | 1, _, _ => exact aL (op_lenT rfl rfl (hd 0 rfl)) | 2, _, _ => exact aL (pure_b (bool_eq (decide_eq_true (by omega))) (⟨_, op_lssI rfl (hd 1 rfl) rfl, rfl⟩)) | qi + 3, h, _ => omega
  intro vs X1 hb hv hal hne; replace HB := Hd.mk (bel_then HB.out hb); replace HE := Hd.mk (HE.out.to hb); have e10 : vs 10 = .bool true := hv 2 (by decide) rfl; simp only [PA, e10]; clear hv hal hne hb e10; go_wp2_with fail
  go_ret
  exact ⟨rest, by rw [HD.out]; rfl, by rw [HD.out]; exact HE.out.get 0 rfl, bel_grown HB.out⟩
 refine wp_region_vd 3 [8, 9, 10] [0, 2] [] 63 [.int .i64 0, .int .i64 0] [isV (.slice (some ⟨g, 0, none⟩) ts.length cap), qI ((ts.length : Nat) : Int), qF] (by rfl) alloc_Z ?_ ?_
 ·intro qi qh qA aa wx hb hs hd
  match qi, qh, qA with
  | 0, _, _ => exact aL (op_mv rfl (hs 0 rfl)) | 1, _, _ => exact aL (op_lenT rfl rfl (hd 0 rfl)) | 2, _, _ => exact aL (pure_b (bool_eq (decide_eq_false (by omega))) (⟨_, op_lssI rfl (hd 1 rfl) rfl, rfl⟩)) | qi + 3, h, _ => omega
 intro vs X1 hb hv hal hne; replace HB := Hd.mk (bel_then HB.out hb); replace HE := Hd.mk (HE.out.to hb); have e10 : vs 10 = .bool false := hv 2 (by decide) rfl; simp only [PA, e10]; clear hv hal hne hb e10; go_wp2_with fail
 go_loopw [5] (fun s5 wr => ∃ k : Nat, 1 ≤ k ∧ k ≤ ts.length ∧ s5 = .int .i64 k ∧ (∀ i, 1 ≤ i → i < k → xsn ts i ≠ xsn ts (i - 1)) ∧ Blk wr g 43 (ts.flatMap (encT Wd Ht) ++ rest) ∧ Below w.heap.size w wr) (fun s5 _ => ts.length - (intOf s5).toNat)
 case atStart => exact ⟨1, Nat.le_refl _, by omega, rfl, fun i h1 h2 => by omega, HE.out.get 0 rfl, HB.out⟩
 case round =>
  obtain ⟨k, hk1, hkn, rfl, hall, hbl, hbw⟩ := hrel; clear HB HE; have HALL := Hd.mk hall; have HW := Hd.mk hbw; have HOK : Hd (∀ s ∈ ts, s.ok wr) := ⟨fun s hs => (HOK0.out s hs).to hbw⟩; have HB : Hd (Below wr.heap.size wr wr) := ⟨Below.refl _ _⟩; have HE : Hd (Env wr [⟨g, 43, ts.flatMap (encT Wd Ht) ++ rest⟩]) := ⟨⟨hbl, (fun e h => by cases h), trivial⟩⟩; clear hbl hall hbw; by_cases hk : k < ts.length
  ·skip
   go_upto_region 4 with fail
   refine wp_region_vd 4 [12, 13, 14, 15] [0, 1, 3] [] 63 [.int .i64 0, .int .i64 0] [qI ((k : Nat) : Int), isV (.slice (some ⟨g, 0, none⟩) ts.length cap), qI ((ts.length : Nat) : Int), qT] (by rfl) alloc_Z ?_ ?_
   ·intro qi qh qA aa wx hb hs hd
    match qi, qh, qA with
    | 0, _, _ => exact aL (op_mv rfl (hs 5 rfl)) | 1, _, _ => exact aL (op_mv rfl (hs 0 rfl)) | 2, _, _ => exact aL (op_lenT rfl rfl (hd 1 rfl)) | 3, _, _ => exact aL (pure_b (bool_eq (decide_eq_true (by omega))) (⟨_, op_lssI rfl (hd 0 rfl) (hd 2 rfl), rfl⟩)) | qi + 4, h, _ => omega
   intro vs X1 hb hv hal hne; replace HB := Hd.mk (bel_then HB.out hb); replace HE := Hd.mk (HE.out.to hb); have e15 : vs 15 = .bool true := hv 3 (by decide) rfl; simp only [PA, e15]; clear hv hal hne hb e15; obtain ⟨s1, hs1⟩ : ∃ s, ts[k]? = some s := ⟨_, List.getElem?_eq_getElem hk⟩; obtain ⟨s0, hs0⟩ : ∃ s, ts[k - 1]? = some s := ⟨_, List.getElem?_eq_getElem (by omega)⟩; have M1 := Hd.mk (List.mem_of_getElem? hs1); have M0 := Hd.mk (List.mem_of_getElem? hs0); have HS1 := Hd.mk hs1; have HS0 := Hd.mk hs0; clear hs1 hs0; by_cases hd : s1.xs = s0.xs
   ·have HDX := Hd.mk (show xsn ts k = xsn ts (k - 1) by rw [xsn_of HS1.out, xsn_of HS0.out]; exact hd); have HDD := Hd.mk hd; clear hd; go_upto_region 6 with fail
    refine wp_region_vs 11 [18, 19, 20, 21, 22, 23, 24, 25, 26, 27, 28] [0, 1, 2, 5, 6, 7] [] 63 [.int .i64 0, .int .i64 0] [isV (.func (.func 90) #[] #[]), isV (.slice (some ⟨g, 0, none⟩) ts.length cap), qI ((k : Nat) : Int), isV (.pointer (some ⟨g, 0 + k * 3, none⟩)), isV (.agg #[.int .i64 Wd, .int .i64 Ht, .slice s1.A s1.xs.length s1.k]), isV (.slice (some ⟨g, 0, none⟩) ts.length cap), qI ((k : Nat) : Int), qI ((k - 1 : Nat) : Int), isV (.pointer (some ⟨g, 0 + (k - 1) * 3, none⟩)), isV (.agg #[.int .i64 Wd, .int .i64 Ht, .slice s0.A s0.xs.length s0.k]), qT] (by kernel_rfl) (by kernel_rfl) (by kernel_rfl) (by rfl) alloc_Z (fun d v c a w h => by cases d <;> exact h) ?_ ?_
    ·intro qi qh qA aa wx hb hs hd
     match qi, qh, qA with
     | 0, _, _ => exact op_mv rfl (hs 1 rfl) | 1, _, _ => exact op_mv rfl (hs 0 rfl) | 2, _, _ => exact op_mv rfl (hs 5 rfl) | 3, _, _ => exact op_run rfl (op_idxT hk rfl (hd 1 rfl) (hd 2 rfl) _) rfl | 4, _, _ => exact op_ldvT rfl rfl (hd 3 rfl) (by rw [Nat.zero_add]; exact tcell_ld ((HE.out.to hb).get 0 rfl) HS1.out) | 5, _, _ => exact op_mv rfl (hs 0 rfl) | 6, _, _ => exact op_mv rfl (hs 5 rfl) | 7, _, _ => exact pure_b (int_eq (by omega)) (⟨_, op_sub (by unfold Fit; omega) rfl (hd 6 rfl) rfl, rfl⟩) | 8, _, _ => exact op_run rfl (op_idxT (by omega) rfl (hd 5 rfl) (hd 7 rfl) _) rfl | 9, _, _ => exact op_ldvT rfl rfl (hd 8 rfl) (by rw [Nat.zero_add]; exact tcell_ld ((HE.out.to hb).get 0 rfl) HS0.out) | 10, _, _ => exact wp_b (bool_eq (decide_eq_true HDD.out)) (op_callv2 (hd 0 rfl) rfl rfl Tryz.call90 (by rw [(show aa.eval (.tmp 22) = .agg #[.int .i64 Wd, .int .i64 Ht, .slice s1.A s1.xs.length s1.k] from (hd 4 rfl)), (show aa.eval (.tmp 27) = .agg #[.int .i64 Wd, .int .i64 Ht, .slice s0.A s0.xs.length s0.k] from (hd 9 rfl))]; exact Orbit1_got Wd Ht s1 s0 _ ((HOK.out s1 M1.out).1.1.to (bel_then HB.out hb)) ((HOK.out s0 M0.out).1.1.to (bel_then HB.out hb)) (by have := (HOK.out s1 M1.out).2; omega) (by have := (HOK.out s0 M0.out).2; omega))) | qi + 11, h, _ => omega
    intro vs X2 hb hv hal hne; replace HB := Hd.mk (bel_then HB.out hb); replace HE := Hd.mk (HE.out.to hb); have e28 : vs 28 = .bool true := hv 10 (by decide) rfl; simp only [PA, e28]; clear hv hal hne hb e28; go_upto_region 7 with fail
    refine wp_region_vd 3 [29, 30, 31] [0, 1] [] 63 [.int .i64 0, .int .i64 0] [isV (.slice (some ⟨g, 0, none⟩) ts.length cap), qI ((k : Nat) : Int), isV (.slice (some ⟨g, k * 3, none⟩) (ts.length - k) (cap - k))] (by rfl) alloc_Z ?_ ?_
    ·intro qi qh qA aa wx hb hs hd
     match qi, qh, qA with
     | 0, _, _ => exact aL (op_mv rfl (hs 0 rfl)) | 1, _, _ => exact aL (op_mv rfl (hs 5 rfl)) | 2, _, _ => exact aL (op_run rfl (op_fromT hk hcap rfl (hd 0 rfl) (hd 1 rfl) _) rfl) | qi + 3, h, _ => omega
    intro vs X3 hb hv hal hne; replace HB := Hd.mk (bel_then HB.out hb); replace HE := Hd.mk (HE.out.to hb); have e31 : vs 31 = .slice (some ⟨g, k * 3, none⟩) (ts.length - k) (cap - k) := hv 2 (by decide) rfl; simp only [PA, e31]; clear hv hal hne hb e31; go_wp2_with fail
    clear HOK HDD M1 M0 HS1 HS0; go_loopw [5, 7] (fun s5 s7 wr => ∃ (kk k2 : Nat) (cur : List Sl), s5 = .int .i64 kk ∧ s7 = .int .i64 k2 ∧ 1 ≤ k2 ∧ k + k2 ≤ ts.length ∧ Ci ts (k + k2) kk cur ∧ Blk wr g 43 (cur.flatMap (encT Wd Ht) ++ rest) ∧ w.grownBy wr (some g)) (fun _ s7 _ => ts.length - (intOf s7).toNat)
    case atStart => exact ⟨k, 1, ts, rfl, rfl, Nat.le_refl _, by omega, Ci.start hk hk1 HALL.out HDX.out, HE.out.get 0 rfl, grown_bel (bel_grown HW.out) HB.out⟩
    case round =>
     obtain ⟨kk, k2, cur, rfl, rfl, hk2, hkn2, hci, hbl, hgw⟩ := hrel; clear HB HE HW; have HCI := Hd.mk hci; have hkk := hci.lt; have HG := Hd.mk hgw; have HOK : Hd (∀ s ∈ ts, s.ok wr) := ⟨fun s hs => ⟨(HOK0.out s hs).1.by_ hgw (fun ad e => (HNE.out s hs ad e)), (HOK0.out s hs).2⟩⟩; have HB : Hd (Below wr.heap.size wr wr) := ⟨Below.refl _ _⟩; have HE : Hd (Env wr [⟨g, 43, cur.flatMap (encT Wd Ht) ++ rest⟩]) := ⟨⟨hbl, (fun e h => by cases h), trivial⟩⟩; clear hbl hci hgw; by_cases hk3 : k + k2 < ts.length
     ·skip
      go_upto_region 9 with fail
      refine wp_region_vd 4 [32, 33, 34, 35] [0, 1, 3] [] 63 [.int .i64 0, .int .i64 0] [qI ((k2 : Nat) : Int), isV (.slice (some ⟨g, k * 3, none⟩) ((ts.length - k)) ((cap - k))), qI ((ts.length - k : Nat) : Int), qT] (by rfl) alloc_Z ?_ ?_
      ·intro qi qh qA aa wx hb hs hd
       match qi, qh, qA with
       | 0, _, _ => exact aL (op_mv rfl (hs 7 rfl)) | 1, _, _ => exact aL (op_mv rfl (hs 6 rfl)) | 2, _, _ => exact aL (op_lenT rfl rfl (hd 1 rfl)) | 3, _, _ => exact aL (pure_b (bool_eq (decide_eq_true (by omega))) (⟨_, op_lssI rfl (hd 0 rfl) (hd 2 rfl), rfl⟩)) | qi + 4, h, _ => omega
      intro vs X1 hb hv hal hne; replace HB := Hd.mk (bel_then HB.out hb); replace HE := Hd.mk (HE.out.to hb); have e35 : vs 35 = .bool true := hv 3 (by decide) rfl; simp only [PA, e35]; clear hv hal hne hb e35; obtain ⟨s1, hs1⟩ : ∃ s, ts[k + k2]? = some s := ⟨_, List.getElem?_eq_getElem hk3⟩; obtain ⟨s0, hs0⟩ : ∃ s, ts[k + k2 - 1]? = some s := ⟨_, List.getElem?_eq_getElem (by omega)⟩; have M1 := Hd.mk (List.mem_of_getElem? hs1); have M0 := Hd.mk (List.mem_of_getElem? hs0); have HS1 := Hd.mk hs1; have HS0 := Hd.mk hs0; have HC1 := Hd.mk ((HCI.out.high (k + k2) (by omega)).trans hs1); have HC0 := Hd.mk ((HCI.out.high (k + k2 - 1) (by omega)).trans hs0); clear hs1 hs0; by_cases hd : s1.xs = s0.xs
      ·have HDX := Hd.mk (show xsn ts (k + k2) = xsn ts (k + k2 - 1) by rw [xsn_of HS1.out, xsn_of HS0.out]; exact hd); have HDD := Hd.mk hd; clear hd; go_upto_region 11 with fail
       refine wp_region_vs 12 [38, 39, 40, 41, 42, 43, 44, 45, 46, 47, 48, 49] [0, 1, 2, 5, 6, 7, 11] [] 63 [.int .i64 0, .int .i64 0] [isV (.func (.func 90) #[] #[]), isV (.slice (some ⟨g, k * 3, none⟩) ((ts.length - k)) ((cap - k))), qI ((k2 : Nat) : Int), isV (.pointer (some ⟨g, k * 3 + k2 * 3, none⟩)), isV (.agg #[.int .i64 Wd, .int .i64 Ht, .slice s1.A s1.xs.length s1.k]), isV (.slice (some ⟨g, k * 3, none⟩) ((ts.length - k)) ((cap - k))), qI ((k2 : Nat) : Int), qI ((k2 - 1 : Nat) : Int), isV (.pointer (some ⟨g, k * 3 + (k2 - 1) * 3, none⟩)), isV (.agg #[.int .i64 Wd, .int .i64 Ht, .slice s0.A s0.xs.length s0.k]), qT, qF] (by kernel_rfl) (by kernel_rfl) (by kernel_rfl) (by rfl) alloc_Z (fun d v c a w h => by cases d <;> exact h) ?_ ?_
       ·intro qi qh qA aa wx hb hs hd
        match qi, qh, qA with
        | 0, _, _ => exact op_mv rfl (hs 1 rfl) | 1, _, _ => exact op_mv rfl (hs 6 rfl) | 2, _, _ => exact op_mv rfl (hs 7 rfl) | 3, _, _ => exact op_run rfl (op_idxT (by omega) rfl (hd 1 rfl) (hd 2 rfl) _) rfl | 4, _, _ => exact op_ldvT rfl rfl (hd 3 rfl) (by rw [← Nat.add_mul]; exact tcell_ld ((HE.out.to hb).get 0 rfl) HC1.out) | 5, _, _ => exact op_mv rfl (hs 6 rfl) | 6, _, _ => exact op_mv rfl (hs 7 rfl) | 7, _, _ => exact pure_b (int_eq (by omega)) (⟨_, op_sub (by unfold Fit; omega) rfl (hd 6 rfl) rfl, rfl⟩) | 8, _, _ => exact op_run rfl (op_idxT (by omega) rfl (hd 5 rfl) (hd 7 rfl) _) rfl | 9, _, _ => exact op_ldvT rfl rfl (hd 8 rfl) (by rw [← Nat.add_mul, show k + (k2 - 1) = k + k2 - 1 by omega]; exact tcell_ld ((HE.out.to hb).get 0 rfl) HC0.out) | 10, _, _ => exact wp_b (bool_eq (decide_eq_true HDD.out)) (op_callv2 (hd 0 rfl) rfl rfl Tryz.call90 (by rw [(show aa.eval (.tmp 42) = .agg #[.int .i64 Wd, .int .i64 Ht, .slice s1.A s1.xs.length s1.k] from (hd 4 rfl)), (show aa.eval (.tmp 47) = .agg #[.int .i64 Wd, .int .i64 Ht, .slice s0.A s0.xs.length s0.k] from (hd 9 rfl))]; exact Orbit1_got Wd Ht s1 s0 _ ((HOK.out s1 M1.out).1.1.to (bel_then HB.out hb)) ((HOK.out s0 M0.out).1.1.to (bel_then HB.out hb)) (by have := (HOK.out s1 M1.out).2; omega) (by have := (HOK.out s0 M0.out).2; omega))) | 11, _, _ => exact ⟨_, op_not rfl (hd 10 rfl), rfl⟩ | qi + 12, h, _ => omega
       intro vs X2 hb hv hal hne; replace HB := Hd.mk (bel_then HB.out hb); replace HE := Hd.mk (HE.out.to hb); have e49 : vs 49 = .bool false := hv 11 (by decide) rfl; simp only [PA, e49]; clear hv hal hne hb e49; go_upto_region 10 with fail
       refine wp_region_vd 2 [36, 37] [0, 1] [] 63 [.int .i64 0, .int .i64 0] [qI ((k2 : Nat) : Int), qI ((((k2 : Nat) : Int)) + 1)] (by rfl) alloc_Z ?_ ?_
       ·intro qi qh qA aa wx hb hs hd
        match qi, qh, qA with
        | 0, _, _ => exact aL (op_mv rfl (hs 7 rfl)) | 1, _, _ => exact aL ⟨_, op_add (by unfold Fit; omega) rfl (hd 0 rfl) rfl, rfl⟩ | qi + 2, h, _ => omega
       intro vs X3 hb hv hal hne; replace HB := Hd.mk (bel_then HB.out hb); replace HE := Hd.mk (HE.out.to hb); have e37 : vs 37 = .int .i64 ((((k2 : Nat) : Int)) + 1) := hv 1 (by decide) rfl; simp only [PA, e37]; clear hv hal hne hb e37; go_wp2_with fail
       go_roundw
       case rel => exact ⟨kk, k2 + 1, cur, rfl, by go_num, by omega, by omega, HCI.out.skip (by omega) HDX.out, HE.out.get 0 rfl, grown_bel HG.out HB.out⟩
       case measure => simp [intOf]; omega
      have HDX := Hd.mk (show xsn ts (k + k2) ≠ xsn ts (k + k2 - 1) by rw [xsn_of HS1.out, xsn_of HS0.out]; exact hd); have HDD := Hd.mk hd; clear hd; go_upto_region 11 with fail
      refine wp_region_vs 12 [38, 39, 40, 41, 42, 43, 44, 45, 46, 47, 48, 49] [0, 1, 2, 5, 6, 7, 11] [] 63 [.int .i64 0, .int .i64 0] [isV (.func (.func 90) #[] #[]), isV (.slice (some ⟨g, k * 3, none⟩) ((ts.length - k)) ((cap - k))), qI ((k2 : Nat) : Int), isV (.pointer (some ⟨g, k * 3 + k2 * 3, none⟩)), isV (.agg #[.int .i64 Wd, .int .i64 Ht, .slice s1.A s1.xs.length s1.k]), isV (.slice (some ⟨g, k * 3, none⟩) ((ts.length - k)) ((cap - k))), qI ((k2 : Nat) : Int), qI ((k2 - 1 : Nat) : Int), isV (.pointer (some ⟨g, k * 3 + (k2 - 1) * 3, none⟩)), isV (.agg #[.int .i64 Wd, .int .i64 Ht, .slice s0.A s0.xs.length s0.k]), qF, qT] (by kernel_rfl) (by kernel_rfl) (by kernel_rfl) (by rfl) alloc_Z (fun d v c a w h => by cases d <;> exact h) ?_ ?_
      ·intro qi qh qA aa wx hb hs hd
       match qi, qh, qA with
       | 0, _, _ => exact op_mv rfl (hs 1 rfl) | 1, _, _ => exact op_mv rfl (hs 6 rfl) | 2, _, _ => exact op_mv rfl (hs 7 rfl) | 3, _, _ => exact op_run rfl (op_idxT (by omega) rfl (hd 1 rfl) (hd 2 rfl) _) rfl | 4, _, _ => exact op_ldvT rfl rfl (hd 3 rfl) (by rw [← Nat.add_mul]; exact tcell_ld ((HE.out.to hb).get 0 rfl) HC1.out) | 5, _, _ => exact op_mv rfl (hs 6 rfl) | 6, _, _ => exact op_mv rfl (hs 7 rfl) | 7, _, _ => exact pure_b (int_eq (by omega)) (⟨_, op_sub (by unfold Fit; omega) rfl (hd 6 rfl) rfl, rfl⟩) | 8, _, _ => exact op_run rfl (op_idxT (by omega) rfl (hd 5 rfl) (hd 7 rfl) _) rfl | 9, _, _ => exact op_ldvT rfl rfl (hd 8 rfl) (by rw [← Nat.add_mul, show k + (k2 - 1) = k + k2 - 1 by omega]; exact tcell_ld ((HE.out.to hb).get 0 rfl) HC0.out) | 10, _, _ => exact wp_b (bool_eq (decide_eq_false HDD.out)) (op_callv2 (hd 0 rfl) rfl rfl Tryz.call90 (by rw [(show aa.eval (.tmp 42) = .agg #[.int .i64 Wd, .int .i64 Ht, .slice s1.A s1.xs.length s1.k] from (hd 4 rfl)), (show aa.eval (.tmp 47) = .agg #[.int .i64 Wd, .int .i64 Ht, .slice s0.A s0.xs.length s0.k] from (hd 9 rfl))]; exact Orbit1_got Wd Ht s1 s0 _ ((HOK.out s1 M1.out).1.1.to (bel_then HB.out hb)) ((HOK.out s0 M0.out).1.1.to (bel_then HB.out hb)) (by have := (HOK.out s1 M1.out).2; omega) (by have := (HOK.out s0 M0.out).2; omega))) | 11, _, _ => exact ⟨_, op_not rfl (hd 10 rfl), rfl⟩ | qi + 12, h, _ => omega
      intro vs X2 hb hv hal hne; replace HB := Hd.mk (bel_then HB.out hb); replace HE := Hd.mk (HE.out.to hb); have e49 : vs 49 = .bool true := hv 11 (by decide) rfl; simp only [PA, e49]; clear hv hal hne hb e49; go_upto_region 12 with fail
      refine wp_region_vd 7 [50, 51, 52, 53, 54, 55, 56] [0, 1, 2, 3] [] 63 [.int .i64 0, .int .i64 0] [isV (.slice (some ⟨g, 0, none⟩) ts.length cap), qI ((kk : Nat) : Int), isV (.slice (some ⟨g, k * 3, none⟩) ((ts.length - k)) ((cap - k))), qI ((k2 : Nat) : Int), isV (.pointer (some ⟨g, k * 3 + k2 * 3, none⟩)), isV (.agg #[.int .i64 Wd, .int .i64 Ht, .slice s1.A s1.xs.length s1.k]), isV (.pointer (some ⟨g, 0 + kk * 3, none⟩))] (by rfl) alloc_Z ?_ ?_
      ·intro qi qh qA aa wx hb hs hd
       match qi, qh, qA with
       | 0, _, _ => exact aL (op_mv rfl (hs 0 rfl)) | 1, _, _ => exact aL (op_mv rfl (hs 5 rfl)) | 2, _, _ => exact aL (op_mv rfl (hs 6 rfl)) | 3, _, _ => exact aL (op_mv rfl (hs 7 rfl)) | 4, _, _ => exact aL (op_run rfl (op_idxT (by omega) rfl (hd 2 rfl) (hd 3 rfl) _) rfl) | 5, _, _ => exact aL (op_ldvT rfl rfl (hd 4 rfl) (by rw [← Nat.add_mul]; exact tcell_ld ((HE.out.to hb).get 0 rfl) HC1.out)) | 6, _, _ => exact aL (op_run rfl (op_idxT (by omega) rfl (hd 0 rfl) (hd 1 rfl) _) rfl) | qi + 7, h, _ => omega
      intro vs X3 hb hv hal hne; replace HB := Hd.mk (bel_then HB.out hb); replace HE := Hd.mk (HE.out.to hb); have e56 : vs 56 = .pointer (some ⟨g, 0 + kk * 3, none⟩) := hv 6 (by decide) rfl; have e55 : vs 55 = .agg #[.int .i64 Wd, .int .i64 Ht, .slice s1.A s1.xs.length s1.k] := hv 5 (by decide) rfl; simp only [PA, e56, e55]; clear hv hal hne hb e56 e55; rw [Nat.zero_add]; have hcl : cur.length = ts.length := HCI.out.len; refine wpList_st rfl rfl rfl rfl rfl (sto_vT (HE.out.get 0 rfl) (by rw [List.length_append, tcells_len]; omega)) ?_; have HBK : Blk (X3.setCells g (kk * 3) (encT Wd Ht s1)) g 43 ((cur.set kk s1).flatMap (encT Wd Ht) ++ rest) := put_list (HE.out.get 0 rfl) (by omega); have HG2 : w.grownBy (X3.setCells g (kk * 3) (encT Wd Ht s1)) (some g) := grown_trans (grown_bel HG.out HB.out) (setCells_by _ _ _); unfold encT at HBK HG2; generalize World.setCells X3 g (kk * 3) [.int .i64 Wd, .int .i64 Ht, .slice s1.A s1.xs.length s1.k] = Z at *; clear HB HE; have HE : Hd (Env Z [⟨g, 43, (cur.set kk s1).flatMap (encT Wd Ht) ++ rest⟩]) := ⟨⟨HBK, (fun e h => by cases h), trivial⟩⟩; have HG3 := Hd.mk HG2; clear HBK HG2; have HB : Hd (Below Z.heap.size Z Z) := ⟨Below.refl _ _⟩; go_upto_region 13 with fail
      refine wp_region_vd 2 [57, 58] [0, 1] [] 63 [.int .i64 0, .int .i64 0] [qI ((kk : Nat) : Int), qI ((((kk : Nat) : Int)) + 1)] (by rfl) alloc_Z ?_ ?_
      ·intro qi qh qA aa wx hb hs hd
       match qi, qh, qA with
       | 0, _, _ => exact aL (op_mv rfl (hs 5 rfl)) | 1, _, _ => exact aL ⟨_, op_add (by unfold Fit; omega) rfl (hd 0 rfl) rfl, rfl⟩ | qi + 2, h, _ => omega
      intro vs X1 hb hv hal hne; replace HB := Hd.mk (bel_then HB.out hb); replace HE := Hd.mk (HE.out.to hb); have e58 : vs 58 = .int .i64 ((((kk : Nat) : Int)) + 1) := hv 1 (by decide) rfl; simp only [PA, e58]; clear hv hal hne hb e58; go_upto_region 10 with fail
      refine wp_region_vd 2 [36, 37] [0, 1] [] 63 [.int .i64 0, .int .i64 0] [qI ((k2 : Nat) : Int), qI ((((k2 : Nat) : Int)) + 1)] (by rfl) alloc_Z ?_ ?_
      ·intro qi qh qA aa wx hb hs hd
       match qi, qh, qA with
       | 0, _, _ => exact aL (op_mv rfl (hs 7 rfl)) | 1, _, _ => exact aL ⟨_, op_add (by unfold Fit; omega) rfl (hd 0 rfl) rfl, rfl⟩ | qi + 2, h, _ => omega
      intro vs X2 hb hv hal hne; replace HB := Hd.mk (bel_then HB.out hb); replace HE := Hd.mk (HE.out.to hb); have e37 : vs 37 = .int .i64 ((((k2 : Nat) : Int)) + 1) := hv 1 (by decide) rfl; simp only [PA, e37]; clear hv hal hne hb e37; go_wp2_with fail
      go_roundw
      case rel => exact ⟨kk + 1, k2 + 1, cur.set kk s1, by go_num, by go_num, by omega, by omega, HCI.out.keep (by omega) HS1.out HDX.out, HE.out.get 0 rfl, grown_bel HG3.out HB.out⟩
      case measure => simp [intOf]; omega
     have e1 : k + k2 = ts.length := by omega
     go_upto_region 9 with fail
     refine wp_region_vd 4 [32, 33, 34, 35] [0, 1, 3] [] 63 [.int .i64 0, .int .i64 0] [qI ((k2 : Nat) : Int), isV (.slice (some ⟨g, k * 3, none⟩) ((ts.length - k)) ((cap - k))), qI ((ts.length - k : Nat) : Int), qF] (by rfl) alloc_Z ?_ ?_
     ·intro qi qh qA aa wx hb hs hd
      match qi, qh, qA with
      | 0, _, _ => exact aL (op_mv rfl (hs 7 rfl)) | 1, _, _ => exact aL (op_mv rfl (hs 6 rfl)) | 2, _, _ => exact aL (op_lenT rfl rfl (hd 1 rfl)) | 3, _, _ => exact aL (pure_b (bool_eq (decide_eq_false (by omega))) (⟨_, op_lssI rfl (hd 0 rfl) (hd 2 rfl), rfl⟩)) | qi + 4, h, _ => omega
     intro vs X1 hb hv hal hne; replace HB := Hd.mk (bel_then HB.out hb); replace HE := Hd.mk (HE.out.to hb); have e35 : vs 35 = .bool false := hv 3 (by decide) rfl; simp only [PA, e35]; clear hv hal hne hb e35; have HCD : Hd (Ci ts ts.length kk cur) := ⟨by rw [← e1]; exact HCI.out⟩; clear HCI e1; go_upto_region 14 with fail
     refine wp_region_vd 3 [59, 60, 61] [0, 1] [] 63 [.int .i64 0, .int .i64 0] [isV (.slice (some ⟨g, 0, none⟩) ts.length cap), qI ((kk : Nat) : Int), isV (.slice (some ⟨g, kk * 3, none⟩) (ts.length - kk) (cap - kk))] (by rfl) alloc_Z ?_ ?_
     ·intro qi qh qA aa wx hb hs hd
      match qi, qh, qA with
      | 0, _, _ => exact aL (op_mv rfl (hs 0 rfl)) | 1, _, _ => exact aL (op_mv rfl (hs 5 rfl)) | 2, _, _ => exact aL (op_run rfl (op_fromT (by omega) hcap rfl (hd 0 rfl) (hd 1 rfl) _) rfl) | qi + 3, h, _ => omega
     intro vs X2 hb hv hal hne; replace HB := Hd.mk (bel_then HB.out hb); replace HE := Hd.mk (HE.out.to hb); have e61 : vs 61 = .slice (some ⟨g, kk * 3, none⟩) (ts.length - kk) (cap - kk) := hv 2 (by decide) rfl; simp only [PA, e61]; clear hv hal hne hb e61; obtain ⟨zs, rest', hcl, hbk⟩ := clear_row (ty := 0) (c := cap - kk) HCD.out (HE.out.get 0 rfl); have HNU := Hd.mk HCD.out.num; have HG2 := Hd.mk (grown_trans (grown_bel HG.out HB.out) (setCells_by (g := g) zs _ (kk * 3))); have HBK := Hd.mk hbk; clear hbk HB HE; go_wp2_with fail
     go_ret
     exact ⟨rest', by rw [← HNU.out]; rfl, HBK.out, HG2.out⟩
   have HDX := Hd.mk (show xsn ts k ≠ xsn ts (k - 1) by rw [xsn_of HS1.out, xsn_of HS0.out]; exact hd); have HDD := Hd.mk hd; clear hd; go_upto_region 6 with fail
   refine wp_region_vs 11 [18, 19, 20, 21, 22, 23, 24, 25, 26, 27, 28] [0, 1, 2, 5, 6, 7] [] 63 [.int .i64 0, .int .i64 0] [isV (.func (.func 90) #[] #[]), isV (.slice (some ⟨g, 0, none⟩) ts.length cap), qI ((k : Nat) : Int), isV (.pointer (some ⟨g, 0 + k * 3, none⟩)), isV (.agg #[.int .i64 Wd, .int .i64 Ht, .slice s1.A s1.xs.length s1.k]), isV (.slice (some ⟨g, 0, none⟩) ts.length cap), qI ((k : Nat) : Int), qI ((k - 1 : Nat) : Int), isV (.pointer (some ⟨g, 0 + (k - 1) * 3, none⟩)), isV (.agg #[.int .i64 Wd, .int .i64 Ht, .slice s0.A s0.xs.length s0.k]), qF] (by kernel_rfl) (by kernel_rfl) (by kernel_rfl) (by rfl) alloc_Z (fun d v c a w h => by cases d <;> exact h) ?_ ?_
   ·intro qi qh qA aa wx hb hs hd
    match qi, qh, qA with
    | 0, _, _ => exact op_mv rfl (hs 1 rfl) | 1, _, _ => exact op_mv rfl (hs 0 rfl) | 2, _, _ => exact op_mv rfl (hs 5 rfl) | 3, _, _ => exact op_run rfl (op_idxT hk rfl (hd 1 rfl) (hd 2 rfl) _) rfl | 4, _, _ => exact op_ldvT rfl rfl (hd 3 rfl) (by rw [Nat.zero_add]; exact tcell_ld ((HE.out.to hb).get 0 rfl) HS1.out) | 5, _, _ => exact op_mv rfl (hs 0 rfl) | 6, _, _ => exact op_mv rfl (hs 5 rfl) | 7, _, _ => exact pure_b (int_eq (by omega)) (⟨_, op_sub (by unfold Fit; omega) rfl (hd 6 rfl) rfl, rfl⟩) | 8, _, _ => exact op_run rfl (op_idxT (by omega) rfl (hd 5 rfl) (hd 7 rfl) _) rfl | 9, _, _ => exact op_ldvT rfl rfl (hd 8 rfl) (by rw [Nat.zero_add]; exact tcell_ld ((HE.out.to hb).get 0 rfl) HS0.out) | 10, _, _ => exact wp_b (bool_eq (decide_eq_false HDD.out)) (op_callv2 (hd 0 rfl) rfl rfl Tryz.call90 (by rw [(show aa.eval (.tmp 22) = .agg #[.int .i64 Wd, .int .i64 Ht, .slice s1.A s1.xs.length s1.k] from (hd 4 rfl)), (show aa.eval (.tmp 27) = .agg #[.int .i64 Wd, .int .i64 Ht, .slice s0.A s0.xs.length s0.k] from (hd 9 rfl))]; exact Orbit1_got Wd Ht s1 s0 _ ((HOK.out s1 M1.out).1.1.to (bel_then HB.out hb)) ((HOK.out s0 M0.out).1.1.to (bel_then HB.out hb)) (by have := (HOK.out s1 M1.out).2; omega) (by have := (HOK.out s0 M0.out).2; omega))) | qi + 11, h, _ => omega
   intro vs X2 hb hv hal hne; replace HB := Hd.mk (bel_then HB.out hb); replace HE := Hd.mk (HE.out.to hb); have e28 : vs 28 = .bool false := hv 10 (by decide) rfl; simp only [PA, e28]; clear hv hal hne hb e28; go_upto_region 5 with fail
   refine wp_region_vd 2 [16, 17] [0, 1] [] 63 [.int .i64 0, .int .i64 0] [qI ((k : Nat) : Int), qI ((((k : Nat) : Int)) + 1)] (by rfl) alloc_Z ?_ ?_
   ·intro qi qh qA aa wx hb hs hd
    match qi, qh, qA with
    | 0, _, _ => exact aL (op_mv rfl (hs 5 rfl)) | 1, _, _ => exact aL ⟨_, op_add (by unfold Fit; omega) rfl (hd 0 rfl) rfl, rfl⟩ | qi + 2, h, _ => omega
   intro vs X3 hb hv hal hne; replace HB := Hd.mk (bel_then HB.out hb); replace HE := Hd.mk (HE.out.to hb); have e17 : vs 17 = .int .i64 ((((k : Nat) : Int)) + 1) := hv 1 (by decide) rfl; simp only [PA, e17]; clear hv hal hne hb e17; go_wp2_with fail
   go_roundw
   case rel => exact ⟨k + 1, by omega, by omega, by go_num, fun i h1 h2 => by
    by_cases e : i = k
    ·rw [e]; exact HDX.out
    exact HALL.out i h1 (by omega), HE.out.get 0 rfl, bel_then HW.out HB.out⟩
   case measure => simp [intOf]; omega
  have e1 : k = ts.length := by omega
  go_upto_region 4 with fail
  refine wp_region_vd 4 [12, 13, 14, 15] [0, 1, 3] [] 63 [.int .i64 0, .int .i64 0] [qI ((k : Nat) : Int), isV (.slice (some ⟨g, 0, none⟩) ts.length cap), qI ((ts.length : Nat) : Int), qF] (by rfl) alloc_Z ?_ ?_
  ·intro qi qh qA aa wx hb hs hd
   match qi, qh, qA with
   | 0, _, _ => exact aL (op_mv rfl (hs 5 rfl)) | 1, _, _ => exact aL (op_mv rfl (hs 0 rfl)) | 2, _, _ => exact aL (op_lenT rfl rfl (hd 1 rfl)) | 3, _, _ => exact aL (pure_b (bool_eq (decide_eq_false (by omega))) (⟨_, op_lssI rfl (hd 0 rfl) (hd 2 rfl), rfl⟩)) | qi + 4, h, _ => omega
  intro vs X1 hb hv hal hne; replace HB := Hd.mk (bel_then HB.out hb); replace HE := Hd.mk (HE.out.to hb); have e15 : vs 15 = .bool false := hv 3 (by decide) rfl; simp only [PA, e15]; clear hv hal hne hb e15; have HD := Hd.mk (show ddN ts ts.length = ts by rw [ddN_all (Nat.le_refl _) (by rw [← e1]; exact HALL.out), List.take_length]); go_wp2_with fail
  go_ret
  exact ⟨rest, by rw [HD.out]; rfl, by rw [HD.out]; exact HE.out.get 0 rfl, grown_bel (bel_grown HW.out) HB.out⟩
def keepL (W H : Int) (xs : List Int) (ms : List Mv) : List Mv := ms.filter fun m => decide (apM W H m xs = xs)
def OkT (w : World) (ts : List Sl) : Prop := ∀ s ∈ ts, s.ok w
def isR1 (lo : Nat) (W H : Int) (ys : List Int) : SP := ⟨fun v w => ∃ g A k, v = .slice (some ⟨g, 0, none⟩) 1 1 ∧ lo ≤ g ∧ Blk w g 43 [.int .i64 W, .int .i64 H, .slice A ys.length k] ∧ CellsI w A ys,
 fun v w w' ⟨g, A, k, h1, h2, h3, h4⟩ hb => ⟨g, A, k, h1, h2, h3.to hb, h4.to hb⟩⟩
theorem fs_cells {w : World} {g : Nat} {ys : List Int} {rest : List Value} (h : Blk w g 3 (ints ys ++ rest)) : CellsI w (some ⟨g, 0, none⟩) ys := ⟨h.ri, fun ad e => by
 injection e with e
 subst e
 exact ⟨_, h⟩⟩
section
variable {Q : Exit → Act → World → Prop} {o : Oper} {a : Act} {w w' : World} {d lo g : Nat} {x : Operand} {W H : Int} {ys : List Int} {ts : List Sl} {t : TypeId} {us vs : List Value} {off : Nat}
theorem op_row1 (ho : o.op = .buildSlice 31 1 #[(0, x)]) (hd : o.dst = some d) (hx : (isFS lo W H ys).p (a.eval x) w) (lo2 : Nat) (hl : lo2 ≤ w.heap.size) : o.wp Tryz.prog a w (Post a w d (isR1 lo2 W H ys).p) Q := by
 obtain ⟨g, k, rest, e, _, _, _, hb⟩ := hx
 have key : (execOp a.eval o).run Tryz.prog w = .ok (.value (.slice (some ⟨w.heap.size, 0, none⟩) 1 1)) (w.alloc (.cells #[.int .i64 W, .int .i64 H, .slice (some ⟨g, 0, none⟩) ys.length k] 43)) := by
  generalize a.eval = ev at e ⊢; unfold execOp; simp only [ho]; simp [go_sem, e]
 unfold Oper.wp; rw [key]; simp only [Oper.upon, hd]; exact ⟨_, rfl, below_alloc (Below.refl _ _) _, w.heap.size, _, k, rfl, hl, heap_alloc_new w _, (fs_cells hb).to (below_alloc (Below.refl _ _) _)⟩
theorem OkT.to (h : OkT w ts) (hb : Below w.heap.size w w') : OkT w' ts := fun s hs => (h s hs).to hb
theorem OkT.by_ (h : OkT w ts) (hg : w.grownBy w' (some g)) (hb : Blk w g t us) (ht : t ≠ 3) : OkT w' ts := fun s hs => ⟨(h s hs).1.by_ hg (fun ad e => ((h s hs).1.ne hb ht ad e).1), (h s hs).2⟩
theorem putL_by : ∀ (vs : List Value) (w : World) (o : Nat), w.grownBy (putL w g o vs) (some g)
 | [], w, o => World.grownBy.refl w _
 | v :: vs, w, o => by
  have h := putL_by vs (w.setCell ⟨g, o, none⟩ v) (o + 1); refine ⟨h.os, h.tape, h.output, Nat.le_trans (by simp [World.setCell]) h.size, fun q hq hne => ?_⟩; have h2 := h.block q (by simpa [World.setCell] using hq) hne; exact h2.trans (Below.heap_setCell w ⟨g, o, none⟩ v q (fun e => hne (by rw [e])))
def OwnT (lo : Nat) (w : World) (v : Value) (W H : Int) (ts : List Sl) : Prop := w.ownsRow lo 43 3 v ts.length (ts.flatMap (encT W H))
theorem OwnT.to {v : Value} (h : OwnT lo w v W H ts) (hb : Below w.heap.size w w') : OwnT lo w' v W H ts := own_to h hb
theorem OwnT.lt {v : Value} (h : OwnT lo w v W H ts) : ∀ k, v.ownBlock = some k → lo ≤ k ∧ k < w.heap.size := World.ownsRow.lt h
theorem OwnT.row {v : Value} (h : OwnT lo w v W H ts) (hne : ts ≠ []) : ∃ g cap rest, v = .slice (some ⟨g, 0, none⟩) ts.length cap ∧ lo ≤ g ∧ Blk w g 43 (ts.flatMap (encT W H) ++ rest) ∧ ts.length ≤ cap ∧ cap ≤ maxLen := by
 rcases h.2 with ⟨_, hn⟩ | ⟨g, cap, cur, rfl, hlo, hg, hnc, hcm, hcs, htk⟩
 ·exact absurd (List.eq_nil_of_length_eq_zero hn) hne
 refine ⟨g, cap, cur.toList.drop (ts.length * 3), rfl, hlo, ?_, hnc, hcm⟩; rw [← htk, List.take_append_drop]; exact hg
theorem OkT.grown_ {r : Option Nat} (h : OkT w ts) (hg : w.grownBy w' r) (hne : ∀ g, r = some g → ∃ t us, Blk w g t us ∧ t ≠ 3) : OkT w' ts := by
 cases r with
 | none => exact h.to ⟨hg.os, hg.tape, hg.output, hg.size, fun k hk => hg.block k hk (by simp)⟩
 | some g =>
  obtain ⟨t, us, hb, ht⟩ := hne g rfl; exact h.by_ hg hb ht
theorem OwnT.blk {v : Value} (h : OwnT lo w v W H ts) : ∀ g, v.ownBlock = some g → ∃ t us, Blk w g t us ∧ t ≠ 3 := fun g e => by
 rcases h.2 with ⟨rfl, _⟩ | ⟨g', cap, cur, rfl, hlo, hg, _⟩
 ·cases e
 injection e with e
 obtain rfl : g' = g := e; exact ⟨_, cur.toList, hg, by decide⟩
end
section
variable {w w' : World} {lo g o : Nat} {W H : Int} {ts : List Sl} {t : TypeId} {us vs : List Value}
theorem OkT.putB (h : OkT w ts) (hb : Blk w g t us) (ht : t ≠ 3 := by decide) : OkT (putL w g o vs) ts := h.by_ (putL_by vs w o) hb ht
theorem OwnT.put {v : Value} (h : OwnT lo w v W H ts) (hlt : ∀ k, v.ownBlock = some k → k < g) : OwnT lo (putL w g o vs) v W H ts := own_put hlt h
end
theorem Tryz.info_stamp : (Tryz.prog.info? 43).map (fun i => (i.zero, i.size, i.bytes)) = some (some (.agg #[.int .i64 0, .int .i64 0, .slice none 0 0]), 3, 40) := by kernel_rfl
def isTs (lo : Nat) (W H : Int) (xss : List (List Int)) : SP := ⟨fun v w => ∃ g k rest ts, v = .slice (some ⟨g, 0, none⟩) ts.length k ∧ ts.map Sl.xs = xss ∧ lo ≤ g ∧ Blk w g 43 (ts.flatMap (encT W H) ++ rest) ∧ OkT w ts,
 fun v w w' h hb => by
  obtain ⟨g, k, rest, ts, h1, h2, h3, h4, h5⟩ := h
  exact ⟨g, k, rest, ts, h1, h2, h3, h4.to hb, h5.to hb⟩⟩
def insX (x : List Int) : List (List Int) → List (List Int)
 | [] => [x]
 | y :: l => if cmpL y x < 0 then y :: insX x l else if cmpL y x = 0 then y :: l else x :: y :: l
def orbL (W H : Int) (xs : List Int) (ms : List Mv) : List (List Int) := (ms.map fun m => apM W H m xs).foldl (fun l x => insX x l) []
theorem mem_ins {x : List Int} : ∀ {l : List (List Int)} {z : List Int}, z ∈ insX x l ↔ z = x ∨ z ∈ l
 | [], z => by simp [insX]
 | y :: l, z => by
  rw [insX]; split
  ·rw [List.mem_cons, mem_ins, List.mem_cons]; constructor
   ·rintro (h | h | h)
    ·exact .inr (.inl h)
    ·exact .inl h
    exact .inr (.inr h)
   rintro (h | h | h)
   ·exact .inr (.inl h)
   ·exact .inl h
   exact .inr (.inr h)
  split
  ·next h1 h2 =>
   have e := cmpL_zero h2; subst e; simp
  simp
theorem ins_rises {x : List Int} : ∀ {l : List (List Int)}, l.Pairwise (fun a b => cmpL a b < 0) → (insX x l).Pairwise (fun a b => cmpL a b < 0)
 | [], _ => by simp [insX]
 | y :: l, h => by
  rw [List.pairwise_cons] at h; rw [insX]; split
  ·next h1 =>
   rw [List.pairwise_cons]; refine ⟨fun z hz => ?_, ins_rises h.2⟩; rcases mem_ins.1 hz with rfl | hz
   ·exact h1
   exact h.1 z hz
  split
  ·exact List.pairwise_cons.2 h
  next h1 h2 =>
  have h3 : cmpL x y < 0 := by rw [cmpL_neg]; omega
  refine List.pairwise_cons.2 ⟨fun z hz => ?_, List.pairwise_cons.2 h⟩; rcases List.mem_cons.1 hz with rfl | hz
  ·exact h3
  exact cmpL_trans h3 (h.1 z hz)
theorem fold_ins : ∀ (l acc : List (List Int)), acc.Pairwise (fun a b => cmpL a b < 0) → (l.foldl (fun l x => insX x l) acc).Pairwise (fun a b => cmpL a b < 0) ∧ ∀ z, z ∈ l.foldl (fun l x => insX x l) acc ↔ z ∈ l ∨ z ∈ acc
 | [], acc, h => ⟨h, fun z => by simp⟩
 | x :: l, acc, h => by
  obtain ⟨h1, h2⟩ := fold_ins l (insX x acc) (ins_rises h); refine ⟨h1, fun z => ?_⟩; rw [List.foldl_cons, h2, mem_ins, List.mem_cons]; constructor
  ·rintro (h | h | h)
   ·exact .inl (.inr h)
   ·exact .inl (.inl h)
   exact .inr h
  rintro ((h | h) | h)
  ·exact .inr (.inl h)
  ·exact .inl h
  exact .inr (.inr h)
theorem rises_eq : ∀ {l m : List (List Int)}, l.Pairwise (fun a b => cmpL a b < 0) → m.Pairwise (fun a b => cmpL a b < 0) → (∀ z, z ∈ l ↔ z ∈ m) → l = m
 | [], [], _, _, _ => rfl
 | [], y :: m, _, _, h => by have := (h y).2 (by simp); cases this
 | x :: l, [], _, _, h => by have := (h x).1 (by simp); cases this
 | x :: l, y :: m, h1, h2, h => by
  rw [List.pairwise_cons] at h1 h2
  have e : x = y := by
   rcases List.mem_cons.1 ((h x).1 (by simp)) with e | e
   ·exact e
   rcases List.mem_cons.1 ((h y).2 (by simp)) with e2 | e2
   ·exact e2.symm
   have a := h2.1 x e; have b := h1.1 y e2; have := cmpL_trans a b; rw [cmpL_refl] at this; omega
  subst e; congr 1
  refine rises_eq h1.2 h2.2 fun z => ?_
  constructor
  ·intro hz; rcases List.mem_cons.1 ((h z).1 (List.mem_cons_of_mem _ hz)) with e | e
   ·subst e; have := h1.1 z hz; rw [cmpL_refl] at this; omega
   exact e
  intro hz; rcases List.mem_cons.1 ((h z).2 (List.mem_cons_of_mem _ hz)) with e | e
  ·subst e; have := h2.1 z hz; rw [cmpL_refl] at this; omega
  exact e
theorem ddN_rises {ts : List Sl} (hs : ts.Pairwise (fun a b => cmpL a.xs b.xs ≤ 0)) : ∀ j, 1 ≤ j → j ≤ ts.length →
  ((ddN ts j).map Sl.xs).Pairwise (fun a b => cmpL a b < 0) ∧ (∀ z ∈ (ddN ts j).map Sl.xs, cmpL z (xsn ts (j - 1)) ≤ 0) ∧ ∀ z, z ∈ (ddN ts j).map Sl.xs ↔ z ∈ (ts.take j).map Sl.xs
 | 0, h, _ => by omega
 | 1, _, hl => by
  cases ts with
  | nil => simp at hl
  | cons a l => simp [ddN, xsn, cmpL_refl]
 | j + 2, _, hl => by
  obtain ⟨h1, h2, h3⟩ := ddN_rises hs (j + 1) (by omega) (by omega)
  have hle : cmpL (xsn ts j) (xsn ts (j + 1)) ≤ 0 := by
   rw [List.pairwise_iff_getElem] at hs; have := hs j (j + 1) (by omega) (by omega) (by omega); rwa [xsn_of (List.getElem?_eq_getElem (show j < ts.length by omega)), xsn_of (List.getElem?_eq_getElem (show j + 1 < ts.length by omega))]
  have htk : ts.take (j + 2) = ts.take (j + 1) ++ [ts[j + 1]] := by rw [List.take_add_one (i := j + 1), List.getElem?_eq_getElem (by omega)]; rfl
  have hx : xsn ts (j + 1) = ts[j + 1].xs := xsn_of (List.getElem?_eq_getElem (show j + 1 < ts.length by omega)); rw [Nat.add_sub_cancel] at h2; rw [show j + 2 - 1 = j + 1 from rfl]; by_cases hd : xsn ts (j + 1) = xsn ts j
  ·rw [ddN, if_pos hd]; refine ⟨h1, fun z hz => by rw [hd]; exact h2 z hz, fun z => ?_⟩; rw [h3, htk, List.map_append, List.mem_append]; refine ⟨.inl, fun h => h.elim id fun h => ?_⟩; obtain rfl : z = ts[j + 1].xs := by simpa using h
   rw [← hx, hd, xsn_of (List.getElem?_eq_getElem (show j < ts.length by omega))]; exact List.mem_map.2 ⟨ts[j], List.mem_of_getElem? (i := j) (by rw [List.getElem?_take, if_pos (by omega), List.getElem?_eq_getElem (by omega)]), rfl⟩
  have hlt : cmpL (xsn ts j) (xsn ts (j + 1)) < 0 := by
   have : cmpL (xsn ts j) (xsn ts (j + 1)) ≠ 0 := fun e => hd (cmpL_zero e).symm
   omega
  have hlt2 : ∀ z ∈ (ddN ts (j + 1)).map Sl.xs, cmpL z (xsn ts (j + 1)) < 0 := fun z hz => by
   by_cases e : cmpL z (xsn ts j) = 0
   ·rw [cmpL_zero e]; exact hlt
   exact cmpL_trans (by have := h2 z hz; omega) hlt
  have hg : ts.getD (j + 1) default = ts[j + 1] := by rw [List.getD_eq_getElem?_getD, List.getElem?_eq_getElem (by omega)]; rfl
  rw [ddN, if_neg hd, hg, List.map_append]; refine ⟨List.pairwise_append.2 ⟨h1, by simp, fun a ha b hb => ?_⟩, fun z hz => ?_, fun z => ?_⟩
  ·obtain rfl : b = ts[j + 1].xs := by simpa using hb
   rw [← hx]; exact hlt2 a ha
  ·rcases List.mem_append.1 hz with hz | hz
   ·exact Int.le_of_lt (hlt2 z hz)
   obtain rfl : z = ts[j + 1].xs := by simpa using hz
   rw [hx, cmpL_refl]; exact Int.le_refl _
  rw [List.mem_append, h3, htk, List.map_append, List.mem_append]
theorem orb_of {W H : Int} {xs : List Int} {ms : List Mv} {ts ts' : List Sl} (hm : ts.map Sl.xs = ms.map fun m => apM W H m xs) (hp : ts'.Perm ts) (hs : ts'.Pairwise (fun a b => cmpL a.xs b.xs ≤ 0)) (hne : ts ≠ []) : (ddN ts' ts'.length).map Sl.xs = orbL W H xs ms := by
 have hl : 1 ≤ ts'.length := by
  rw [hp.length_eq]
  cases ts with
  | nil => exact absurd rfl hne
  | cons a l => simp
 obtain ⟨h1, _, h3⟩ := ddN_rises hs ts'.length hl (Nat.le_refl _); obtain ⟨k1, k2⟩ := fold_ins (ms.map fun m => apM W H m xs) [] List.Pairwise.nil; unfold orbL; refine rises_eq h1 k1 fun z => ?_
 rw [h3, List.take_length, k2, ← hm]; simp only [List.not_mem_nil, or_false]; exact (hp.map Sl.xs).mem_iff
theorem ownS_low {lo lo' : Nat} {w : World} {v : Value} {ms : List Mv} (h : lo ≤ lo') (ho : OwnS lo' w v ms) : OwnS lo w v ms := by
 refine ⟨ho.1, ?_⟩; rcases ho.2 with hn | ⟨g', cap, cur, rfl, hb, hgg, rest⟩
 ·exact .inl hn
 exact .inr ⟨g', cap, cur, rfl, by omega, hgg, rest⟩
theorem size_nat {W H : Int} (h : sizeB W H = true) : ∃ Wn Hn : Nat, W = Wn ∧ H = Hn ∧ sizeB Wn Hn = true := by
 have hb := sizeB_bounds h; exact ⟨W.toNat, H.toNat, by omega, by omega, by rw [show ((W.toNat : Nat) : Int) = W by omega, show ((H.toNat : Nat) : Int) = H by omega]; exact h⟩
theorem group_all {W H : Int} {ms : List Mv} (h : gB W H ms = true) (hs : sizeB W H = true) : ∀ i, i < ms.length → Al W H (nthM ms i) := by
 obtain ⟨Wn, Hn, rfl, rfl, hs'⟩ := size_nat hs; exact group_not h hs'
theorem group_nz {W H : Int} {ms : List Mv} (h : gB W H ms = true) (hs : sizeB W H = true) : 0 < ms.length := by
 obtain ⟨Wn, Hn, rfl, rfl, hs'⟩ := size_nat hs; exact List.length_pos_of_mem (memB_iff.1 ((gB_iff hs' ms).1 h).2.2.1)
end Go.Proofs.YtddbmckbankmeaaGreat
