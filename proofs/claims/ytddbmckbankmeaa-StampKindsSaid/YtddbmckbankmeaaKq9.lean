/- Part 9 of the texts behind this claim. -/
import Derived.Test.YtddbmckbankmeaaKq8
set_option linter.unusedVariables false
set_option linter.unusedSimpArgs false
namespace Go.Proofs.Ytddbmckbankmeaa
open Go.RowKit
theorem run_storeF {P : Program} {a : Addr} {m : Mode} {w : World} (fn : Fn) (first captured : Array Value) : (store a (.func fn first captured) m).run P w = stored P w a (.func fn first captured) m := run_store P w a _ m rfl
attribute [local go_sem] run_storeF
section
variable {Q : Exit → Act → World → Prop} {o : Oper} {a : Act} {w : World} {d : Nat} {g off : Nat} {x y z zz : Operand} {ty : TypeId} {b b1 b2 b3 b4 : Int} {c c0 c1 c2 : Bool} {A : Option Addr} {n k : Nat} {m i j : Int} {fv u : Value} {fn : Fn} {fx fy : Array Value}
theorem lds_P {t0 : TypeId} {p q r s t : Value} (h : Blk w g t0 [p, q, r, s, t]) : (Instr.loadAt 104 (.pointer (some ⟨g, 0, none⟩))).run Try.prog w = .ok (.agg #[p, q, r, s, t]) w := by
  have h0 := h.cell 0
  have h1 := h.cell 1
  have h2 := h.cell 2
  have h3 := h.cell 3
  have h4 := h.cell 4
  simp at h0 h1 h2 h3 h4
  simp [go_sem, h0, h1, h2, h3, h4]
theorem op_ldP {t0 : TypeId} {p q r s t : Value} (ho : o.op = .load 104 x) (hd : o.dst = some d) (hx : a.eval x = .pointer (some ⟨g, 0, none⟩)) (h : Blk w g t0 [p, q, r, s, t]) : o.wp Try.prog a w (Post a w d (isV (.agg #[p, q, r, s, t])).p) Q := op_load ho hd hx (lds_P h) rfl
theorem lds_C {t0 : TypeId} {p q r : Value} (h : Blk w g t0 [p, q, r]) : (Instr.loadAt 107 (.pointer (some ⟨g, 0, none⟩))).run Try.prog w = .ok (.agg #[p, q, r]) w := by
  have h0 := h.cell 0
  have h1 := h.cell 1
  have h2 := h.cell 2
  simp at h0 h1 h2
  simp [go_sem, h0, h1, h2]
theorem op_ldC {t0 : TypeId} {p q r : Value} (ho : o.op = .load 107 x) (hd : o.dst = some d) (hx : a.eval x = .pointer (some ⟨g, 0, none⟩)) (h : Blk w g t0 [p, q, r]) : o.wp Try.prog a w (Post a w d (isV (.agg #[p, q, r])).p) Q := op_load ho hd hx (lds_C h) rfl
theorem lds_D {t0 : TypeId} {p q r : Value} (h : Blk w g t0 [p, q, r]) : (Instr.loadAt 112 (.pointer (some ⟨g, 0, none⟩))).run Try.prog w = .ok (.agg #[p, q, r]) w := by
  have h0 := h.cell 0
  have h1 := h.cell 1
  have h2 := h.cell 2
  simp at h0 h1 h2
  simp [go_sem, h0, h1, h2]
theorem op_ldD {t0 : TypeId} {p q r : Value} (ho : o.op = .load 112 x) (hd : o.dst = some d) (hx : a.eval x = .pointer (some ⟨g, 0, none⟩)) (h : Blk w g t0 [p, q, r]) : o.wp Try.prog a w (Post a w d (isV (.agg #[p, q, r])).p) Q := op_load ho hd hx (lds_D h) rfl
theorem lds_V {t0 : TypeId} {p q : Value} (h : Blk w g t0 [p, q]) : (Instr.loadAt 130 (.pointer (some ⟨g, 0, none⟩))).run Try.prog w = .ok (.agg #[p, q]) w := by
  have h0 := h.cell 0
  have h1 := h.cell 1
  simp at h0 h1
  simp [go_sem, h0, h1]
theorem op_ldV {t0 : TypeId} {p q : Value} (ho : o.op = .load 130 x) (hd : o.dst = some d) (hx : a.eval x = .pointer (some ⟨g, 0, none⟩)) (h : Blk w g t0 [p, q]) : o.wp Try.prog a w (Post a w d (isV (.agg #[p, q])).p) Q := op_load ho hd hx (lds_V h) rfl
theorem op_faP1 (ho : o.op = .fieldAddr 104 x 1) (hx : a.eval x = .pointer (some ⟨g, off, none⟩)) (w : World) : (execOp a.eval o).run Try.prog w = .ok (.value (.pointer (some ⟨g, off + 3, none⟩))) w := by
  unfold execOp
  simp only [ho, hx]
  simp [go_sem]
theorem op_faP2 (ho : o.op = .fieldAddr 104 x 2) (hx : a.eval x = .pointer (some ⟨g, off, none⟩)) (w : World) : (execOp a.eval o).run Try.prog w = .ok (.value (.pointer (some ⟨g, off + 4, none⟩))) w := by
  unfold execOp
  simp only [ho, hx]
  simp [go_sem]
theorem op_faC0 (ho : o.op = .fieldAddr 107 x 0) (hx : a.eval x = .pointer (some ⟨g, off, none⟩)) (w : World) : (execOp a.eval o).run Try.prog w = .ok (.value (.pointer (some ⟨g, off + 0, none⟩))) w := by
  unfold execOp
  simp only [ho, hx]
  simp [go_sem]
theorem op_faC1 (ho : o.op = .fieldAddr 107 x 1) (hx : a.eval x = .pointer (some ⟨g, off, none⟩)) (w : World) : (execOp a.eval o).run Try.prog w = .ok (.value (.pointer (some ⟨g, off + 1, none⟩))) w := by
  unfold execOp
  simp only [ho, hx]
  simp [go_sem]
theorem op_faC2 (ho : o.op = .fieldAddr 107 x 2) (hx : a.eval x = .pointer (some ⟨g, off, none⟩)) (w : World) : (execOp a.eval o).run Try.prog w = .ok (.value (.pointer (some ⟨g, off + 2, none⟩))) w := by
  unfold execOp
  simp only [ho, hx]
  simp [go_sem]
theorem op_faD0 (ho : o.op = .fieldAddr 112 x 0) (hx : a.eval x = .pointer (some ⟨g, off, none⟩)) (w : World) : (execOp a.eval o).run Try.prog w = .ok (.value (.pointer (some ⟨g, off + 0, none⟩))) w := by
  unfold execOp
  simp only [ho, hx]
  simp [go_sem]
theorem op_faD1 (ho : o.op = .fieldAddr 112 x 1) (hx : a.eval x = .pointer (some ⟨g, off, none⟩)) (w : World) : (execOp a.eval o).run Try.prog w = .ok (.value (.pointer (some ⟨g, off + 1, none⟩))) w := by
  unfold execOp
  simp only [ho, hx]
  simp [go_sem]
theorem op_faD2 (ho : o.op = .fieldAddr 112 x 2) (hx : a.eval x = .pointer (some ⟨g, off, none⟩)) (w : World) : (execOp a.eval o).run Try.prog w = .ok (.value (.pointer (some ⟨g, off + 2, none⟩))) w := by
  unfold execOp
  simp only [ho, hx]
  simp [go_sem]
theorem op_faV0 (ho : o.op = .fieldAddr 130 x 0) (hx : a.eval x = .pointer (some ⟨g, off, none⟩)) (w : World) : (execOp a.eval o).run Try.prog w = .ok (.value (.pointer (some ⟨g, off + 0, none⟩))) w := by
  unfold execOp
  simp only [ho, hx]
  simp [go_sem]
theorem op_faV1 (ho : o.op = .fieldAddr 130 x 1) (hx : a.eval x = .pointer (some ⟨g, off, none⟩)) (w : World) : (execOp a.eval o).run Try.prog w = .ok (.value (.pointer (some ⟨g, off + 1, none⟩))) w := by
  unfold execOp
  simp only [ho, hx]
  simp [go_sem]
theorem sto_P {t0 : TypeId} {p q r s t : Value} (h : Blk w g t0 [p, q, r, s, t]) : (Instr.storeAt 104 (.pointer (some ⟨g, 0, none⟩)) (.agg #[.int .i64 b1, .int .i64 b2, .slice A n k, .int .i64 b3, .func fn fx fy])).run Try.prog w = .ok () (putL w g 0 [.int .i64 b1, .int .i64 b2, .slice A n k, .int .i64 b3, .func fn fx fy]) := by
  have h0 := h.cell 0
  have h1 := h.cell 1
  have h2 := h.cell 2
  have h3 := h.cell 3
  have h4 := h.cell 4
  simp at h0 h1 h2 h3 h4
  have f0 := h.frozen 0
  have f1 := h.frozen 1
  have f2 := h.frozen 2
  have f3 := h.frozen 3
  have f4 := h.frozen 4
  simp only [putL]
  simp [go_sem, h0, h1, h2, h3, h4, f0, f1, f2, f3, f4]
theorem sto_C {t0 : TypeId} {p q r : Value} (h : Blk w g t0 [p, q, r]) : (Instr.storeAt 107 (.pointer (some ⟨g, 0, none⟩)) (.agg #[.bool c0, .bool c1, .bool c2])).run Try.prog w = .ok () (putL w g 0 [.bool c0, .bool c1, .bool c2]) := by
  have h0 := h.cell 0
  have h1 := h.cell 1
  have h2 := h.cell 2
  simp at h0 h1 h2
  have f0 := h.frozen 0
  have f1 := h.frozen 1
  have f2 := h.frozen 2
  have f3 := h.frozen 3
  have f4 := h.frozen 4
  simp only [putL]
  simp [go_sem, h0, h1, h2, f0, f1, f2, f3, f4]
theorem sto_D {t0 : TypeId} {p q r : Value} (h : Blk w g t0 [p, q, r]) : (Instr.storeAt 112 (.pointer (some ⟨g, 0, none⟩)) (.agg #[.bool c0, .bool c1, .bool c2])).run Try.prog w = .ok () (putL w g 0 [.bool c0, .bool c1, .bool c2]) := by
  have h0 := h.cell 0
  have h1 := h.cell 1
  have h2 := h.cell 2
  simp at h0 h1 h2
  have f0 := h.frozen 0
  have f1 := h.frozen 1
  have f2 := h.frozen 2
  have f3 := h.frozen 3
  have f4 := h.frozen 4
  simp only [putL]
  simp [go_sem, h0, h1, h2, f0, f1, f2, f3, f4]
theorem sto_V {t0 : TypeId} {p q : Value} (h : Blk w g t0 [p, q]) : (Instr.storeAt 130 (.pointer (some ⟨g, 0, none⟩)) (.agg #[.int .i64 b1, .int .i64 b2])).run Try.prog w = .ok () (putL w g 0 [.int .i64 b1, .int .i64 b2]) := by
  have h0 := h.cell 0
  have h1 := h.cell 1
  simp at h0 h1
  have f0 := h.frozen 0
  have f1 := h.frozen 1
  have f2 := h.frozen 2
  have f3 := h.frozen 3
  have f4 := h.frozen 4
  simp only [putL]
  simp [go_sem, h0, h1, f0, f1, f2, f3, f4]
theorem op_ldF {v : Value} (ho : o.op = .load 97 x) (hd : o.dst = some d) (hx : a.eval x = .pointer (some ⟨g, off, none⟩)) (h : w.cell? ⟨g, off, none⟩ = some v) : o.wp Try.prog a w (Post a w d (isV v).p) Q := op_load ho hd hx (by simp [go_sem, h]) rfl
theorem op_buP (ho : o.op = .build 104 #[(0, x), (1, y), (2, z)]) (h0 : a.eval x = .agg #[.int .i64 b1, .int .i64 b2, .slice A n k]) (h1 : a.eval y = .int .i64 b3) (h2 : a.eval z = .func fn fx fy) (w : World) : (execOp a.eval o).run Try.prog w = .ok (.value (.agg #[.int .i64 b1, .int .i64 b2, .slice A n k, .int .i64 b3, .func fn fx fy])) w := by
  generalize a.eval = ev at h0 h1 h2 ⊢
  unfold execOp
  simp only [ho]
  simp [go_sem, h0, h1, h2]
theorem op_buV (ho : o.op = .build 130 #[(0, x), (1, y)]) (h0 : a.eval x = .int .i64 b1) (h1 : a.eval y = .int .i64 b2) (w : World) : (execOp a.eval o).run Try.prog w = .ok (.value (.agg #[.int .i64 b1, .int .i64 b2])) w := by
  generalize a.eval = ev at h0 h1 ⊢
  unfold execOp
  simp only [ho]
  simp [go_sem, h0, h1]
theorem op_b0V (ho : o.op = .build 130 #[]) (w : World) : (execOp a.eval o).run Try.prog w = .ok (.value (.agg #[.int .i64 0, .int .i64 0])) w := by
  unfold execOp
  simp only [ho]
  simp [go_sem]
theorem op_buD0 (ho : o.op = .build 112 #[(0, x)]) (h0 : a.eval x = .bool c0) (w : World) : (execOp a.eval o).run Try.prog w = .ok (.value (.agg #[.bool c0, .bool false, .bool false])) w := by
  generalize a.eval = ev at h0 ⊢
  unfold execOp
  simp only [ho]
  simp [go_sem, h0]
theorem run_fldC (b0 b1 b2 : Value) (W : World) : (Instr.field 107 (.agg #[b0, b1, b2]) 0).run Try.prog W = .ok b0 W := by
  simp [Instr.field, asAgg, go_sem]
theorem op_fldC0 (ho : o.op = .field 107 x 0) (h0 : a.eval x = .agg #[.bool c0, .bool c1, .bool c2]) (w : World) : (execOp a.eval o).run Try.prog w = .ok (.value (.bool c0)) w := by
  generalize a.eval = ev at h0 ⊢
  unfold execOp
  simp only [ho]
  simp [go_sem, h0, run_fldC]
theorem op_mkF1 {f : FuncId} {v : Value} (ho : o.op = .makeFunc (.func f) #[] #[x]) (h0 : a.eval x = v) (w : World) : (execOp a.eval o).run Try.prog w = .ok (.value (.func (.func f) #[] #[v])) w := by
  generalize a.eval = ev at h0 ⊢
  unfold execOp
  simp only [ho]
  simp [go_sem, h0]
theorem alloc_P (w : World) : (Instr.alloc 104 true (.tuple #[])).run Try.prog w = .ok (.pointer (some ⟨w.heap.size, 0, none⟩)) (w.alloc (.cells [.int .i64 0, .int .i64 0, .slice none 0 0, .int .i64 0, .nilFunc].toArray 104)) := by
  simp [go_sem]
theorem alloc_C (w : World) : (Instr.alloc 107 true (.tuple #[])).run Try.prog w = .ok (.pointer (some ⟨w.heap.size, 0, none⟩)) (w.alloc (.cells [.bool false, .bool false, .bool false].toArray 107)) := by
  simp [go_sem]
theorem alloc_D (w : World) : (Instr.alloc 112 true (.tuple #[])).run Try.prog w = .ok (.pointer (some ⟨w.heap.size, 0, none⟩)) (w.alloc (.cells [.bool false, .bool false, .bool false].toArray 112)) := by
  simp [go_sem]
theorem alloc_V (w : World) : (Instr.alloc 130 true (.tuple #[])).run Try.prog w = .ok (.pointer (some ⟨w.heap.size, 0, none⟩)) (w.alloc (.cells [.int .i64 0, .int .i64 0].toArray 130)) := by
  simp [go_sem]
end
theorem op_callc2 {P : Program} {Q : Exit → Act → World → Prop} {o : Oper} {a : Act} {w : World} {d f : Nat} {R : Value → World → Prop} {x1 x2 y : Operand} {ts : Array TypeId} {c : Value}
    (hy : a.eval y = .func (.func f) #[] #[c]) (ho : o.op = .call { callee := .value y, args := #[x1, x2], argTypes := ts }) (hd : o.dst = some d)
    (hcf : ∀ args w, (callFunc f args).run P w = .ok (.enter f args) w) (hc : Calls P f #[a.eval x1, a.eval x2, c] w (Got w R)) : o.wp P a w (Post a w d R) Q := by
  have key : execOp a.eval o = callFunc f (#[] ++ #[x1, x2].map a.eval ++ #[c]) := by
    obtain ⟨dst, op, type, pos, after, guard⟩ := o
    simp only at ho
    subst ho
    unfold execOp
    simp only [resolve, hy]
    rfl
  unfold Oper.wp
  rw [key, hcf]
  simp only [Oper.upon, Array.empty_append, hd, List.map_toArray, List.map_cons, List.map_nil]
  refine hc.mono ?_
  rintro e w' ⟨v, rfl, hb, hr⟩
  exact ⟨v, rfl, hb, hr⟩
def colF (W H : Int) (xs : List Int) (x y : Int) : Int := xs.getD ((y % H) * W + x % W).toNat 0
def perG (W H : Int) : Nat → Int → Int
  | 0, n => n
  | k + 1, n => if n % H = 0 then n else perG W H k (n + W)
def perN (W H : Int) : Int := perG W H 8 W
theorem perN_eq {W H : Int} (hW : 1 ≤ W ∧ W ≤ 6) (hH : 1 ≤ H ∧ H ≤ 6) : (1 ≤ perN W H ∧ perN W H ≤ 30) ∧ perN W H % W = 0 ∧ perN W H % H = 0 := by
  obtain ⟨a, rfl⟩ : ∃ a : Nat, W = a := ⟨W.toNat, by omega⟩
  obtain ⟨b, rfl⟩ : ∃ b : Nat, H = b := ⟨H.toNat, by omega⟩
  have h : ∀ a : Fin 7, ∀ b : Fin 7, 1 ≤ (a : Nat) → 1 ≤ (b : Nat) → (1 ≤ perN ((a : Nat) : Int) ((b : Nat) : Int) ∧ perN ((a : Nat) : Int) ((b : Nat) : Int) ≤ 30) ∧ perN ((a : Nat) : Int) ((b : Nat) : Int) % ((a : Nat) : Int) = 0 ∧ perN ((a : Nat) : Int) ((b : Nat) : Int) % ((b : Nat) : Int) = 0 := by decide
  exact h ⟨a, by omega⟩ ⟨b, by omega⟩ (by show 1 ≤ a; omega) (by show 1 ≤ b; omega)
theorem perG_step {W H : Int} (k : Nat) {n : Int} (h : n % H ≠ 0) : perG W H (k + 1) n = perG W H k (n + W) := by
  show (if n % H = 0 then n else _) = _
  rw [if_neg h]
theorem perG_end {W H : Int} (k : Nat) {n : Int} (h : n % H = 0) : perG W H k n = n := by
  cases k with
  | zero => rfl
  | succ k =>
    show (if n % H = 0 then n else _) = _
    rw [if_pos h]
theorem per_ends {W H : Int} (hW : 1 ≤ W ∧ W ≤ 6) (hH : 1 ≤ H ∧ H ≤ 6) {q : Nat} (hq : q ≤ 5) (hno : ∀ j : Nat, j < q → (W + W * j) % H ≠ 0) (h2 : (W + W * q) % H ≠ 0) : q < 5 := by
  obtain ⟨a, rfl⟩ : ∃ a : Nat, W = a := ⟨W.toNat, by omega⟩
  obtain ⟨b, rfl⟩ : ∃ b : Nat, H = b := ⟨H.toNat, by omega⟩
  have h : ∀ a : Fin 7, ∀ b : Fin 7, 1 ≤ (b : Nat) → ∃ j : Fin 6, (((a : Nat) : Int) + ((a : Nat) : Int) * ((j : Nat) : Int)) % ((b : Nat) : Int) = 0 := by decide
  obtain ⟨j, hj⟩ := h ⟨a, by omega⟩ ⟨b, by omega⟩ (by show 1 ≤ b; omega)
  have hj2 := j.2
  by_cases h3 : (j : Nat) < q
  · exact absurd hj (hno _ h3)
  · by_cases h4 : (j : Nat) = q
    · rw [h4] at hj
      exact absurd hj h2
    · omega
theorem per_of {n : Int} {W H : Int} {xs : List Int} (hW : n % W = 0) (hH : n % H = 0) : Per n (colF W H xs) := fun x y i j => by
  obtain ⟨p, hp⟩ := Int.dvd_of_emod_eq_zero hW
  obtain ⟨q, hq⟩ := Int.dvd_of_emod_eq_zero hH
  unfold colF
  rw [show (x + n * i) % W = x % W by rw [hp, Int.mul_assoc, Int.add_mul_emod_self_left], show (y + n * j) % H = y % H by rw [hq, Int.mul_assoc, Int.add_mul_emod_self_left]]
end Go.Proofs.Ytddbmckbankmeaa
