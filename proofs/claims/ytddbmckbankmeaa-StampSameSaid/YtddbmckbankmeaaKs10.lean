/- Part 10 of the texts behind this claim. -/
import Derived.Test.YtddbmckbankmeaaKs1
import Derived.Test.YtddbmckbankmeaaKs9
set_option linter.unusedVariables false
set_option linter.unusedSimpArgs false
namespace Go.Proofs.Ytddbmckbankmeaa
open Go.RowKit
theorem run_storeF {P : Program} {a : Addr} {m : Mode} {w : World} (fn : Fn) (first captured : Array Value) : (store a (.func fn first captured) m).run P w = stored P w a (.func fn first captured) m := run_store P w a _ m rfl
attribute [local go_sem] run_storeF
section
variable {Q : Exit → Act → World → Prop} {o : Oper} {a : Act} {w : World} {d : Nat} {g off : Nat} {x y z zz : Operand} {ty : TypeId} {b b1 b2 b3 b4 : Int} {c c0 c1 c2 : Bool} {A : Option Addr} {n k : Nat} {m i j : Int} {fv u : Value} {fn : Fn} {fx fy : Array Value}
theorem lds_P {t0 : TypeId} {p q r s t : Value} (h : Blk w g t0 [p, q, r, s, t]) : (Instr.loadAt 104 (.pointer (some ⟨g, 0, none⟩))).run Try.prog w = .ok (.agg #[p, q, r, s, t]) w := by
  have h0 := h.cell 0
  have h1 := h.cell 1
  have h2 := h.cell 2
  have h3 := h.cell 3
  have h4 := h.cell 4
  simp at h0 h1 h2 h3 h4
  simp [go_sem, h0, h1, h2, h3, h4]
theorem op_ldP {t0 : TypeId} {p q r s t : Value} (ho : o.op = .load 104 x) (hd : o.dst = some d) (hx : a.eval x = .pointer (some ⟨g, 0, none⟩)) (h : Blk w g t0 [p, q, r, s, t]) : o.wp Try.prog a w (Post a w d (isV (.agg #[p, q, r, s, t])).p) Q := op_load ho hd hx (lds_P h) rfl
theorem lds_C {t0 : TypeId} {p q r : Value} (h : Blk w g t0 [p, q, r]) : (Instr.loadAt 107 (.pointer (some ⟨g, 0, none⟩))).run Try.prog w = .ok (.agg #[p, q, r]) w := by
  have h0 := h.cell 0
  have h1 := h.cell 1
  have h2 := h.cell 2
  simp at h0 h1 h2
  simp [go_sem, h0, h1, h2]
theorem op_ldC {t0 : TypeId} {p q r : Value} (ho : o.op = .load 107 x) (hd : o.dst = some d) (hx : a.eval x = .pointer (some ⟨g, 0, none⟩)) (h : Blk w g t0 [p, q, r]) : o.wp Try.prog a w (Post a w d (isV (.agg #[p, q, r])).p) Q := op_load ho hd hx (lds_C h) rfl
theorem lds_V {t0 : TypeId} {p q : Value} (h : Blk w g t0 [p, q]) : (Instr.loadAt 130 (.pointer (some ⟨g, 0, none⟩))).run Try.prog w = .ok (.agg #[p, q]) w := by
  have h0 := h.cell 0
  have h1 := h.cell 1
  simp at h0 h1
  simp [go_sem, h0, h1]
theorem op_ldV {t0 : TypeId} {p q : Value} (ho : o.op = .load 130 x) (hd : o.dst = some d) (hx : a.eval x = .pointer (some ⟨g, 0, none⟩)) (h : Blk w g t0 [p, q]) : o.wp Try.prog a w (Post a w d (isV (.agg #[p, q])).p) Q := op_load ho hd hx (lds_V h) rfl
theorem op_faP1 (ho : o.op = .fieldAddr 104 x 1) (hx : a.eval x = .pointer (some ⟨g, off, none⟩)) (w : World) : (execOp a.eval o).run Try.prog w = .ok (.value (.pointer (some ⟨g, off + 3, none⟩))) w := by
  unfold execOp
  simp only [ho, hx]
  simp [go_sem]
theorem op_faP2 (ho : o.op = .fieldAddr 104 x 2) (hx : a.eval x = .pointer (some ⟨g, off, none⟩)) (w : World) : (execOp a.eval o).run Try.prog w = .ok (.value (.pointer (some ⟨g, off + 4, none⟩))) w := by
  unfold execOp
  simp only [ho, hx]
  simp [go_sem]
theorem op_faC0 (ho : o.op = .fieldAddr 107 x 0) (hx : a.eval x = .pointer (some ⟨g, off, none⟩)) (w : World) : (execOp a.eval o).run Try.prog w = .ok (.value (.pointer (some ⟨g, off + 0, none⟩))) w := by
  unfold execOp
  simp only [ho, hx]
  simp [go_sem]
theorem op_faC1 (ho : o.op = .fieldAddr 107 x 1) (hx : a.eval x = .pointer (some ⟨g, off, none⟩)) (w : World) : (execOp a.eval o).run Try.prog w = .ok (.value (.pointer (some ⟨g, off + 1, none⟩))) w := by
  unfold execOp
  simp only [ho, hx]
  simp [go_sem]
theorem op_faC2 (ho : o.op = .fieldAddr 107 x 2) (hx : a.eval x = .pointer (some ⟨g, off, none⟩)) (w : World) : (execOp a.eval o).run Try.prog w = .ok (.value (.pointer (some ⟨g, off + 2, none⟩))) w := by
  unfold execOp
  simp only [ho, hx]
  simp [go_sem]
theorem op_faV0 (ho : o.op = .fieldAddr 130 x 0) (hx : a.eval x = .pointer (some ⟨g, off, none⟩)) (w : World) : (execOp a.eval o).run Try.prog w = .ok (.value (.pointer (some ⟨g, off + 0, none⟩))) w := by
  unfold execOp
  simp only [ho, hx]
  simp [go_sem]
theorem op_faV1 (ho : o.op = .fieldAddr 130 x 1) (hx : a.eval x = .pointer (some ⟨g, off, none⟩)) (w : World) : (execOp a.eval o).run Try.prog w = .ok (.value (.pointer (some ⟨g, off + 1, none⟩))) w := by
  unfold execOp
  simp only [ho, hx]
  simp [go_sem]
theorem sto_P {t0 : TypeId} {p q r s t : Value} (h : Blk w g t0 [p, q, r, s, t]) : (Instr.storeAt 104 (.pointer (some ⟨g, 0, none⟩)) (.agg #[.int .i64 b1, .int .i64 b2, .slice A n k, .int .i64 b3, .func fn fx fy])).run Try.prog w = .ok () (putL w g 0 [.int .i64 b1, .int .i64 b2, .slice A n k, .int .i64 b3, .func fn fx fy]) := by
  have h0 := h.cell 0
  have h1 := h.cell 1
  have h2 := h.cell 2
  have h3 := h.cell 3
  have h4 := h.cell 4
  simp at h0 h1 h2 h3 h4
  have f0 := h.frozen 0
  have f1 := h.frozen 1
  have f2 := h.frozen 2
  have f3 := h.frozen 3
  have f4 := h.frozen 4
  simp only [putL]
  simp [go_sem, h0, h1, h2, h3, h4, f0, f1, f2, f3, f4]
theorem sto_C {t0 : TypeId} {p q r : Value} (h : Blk w g t0 [p, q, r]) : (Instr.storeAt 107 (.pointer (some ⟨g, 0, none⟩)) (.agg #[.bool c0, .bool c1, .bool c2])).run Try.prog w = .ok () (putL w g 0 [.bool c0, .bool c1, .bool c2]) := by
  have h0 := h.cell 0
  have h1 := h.cell 1
  have h2 := h.cell 2
  simp at h0 h1 h2
  have f0 := h.frozen 0
  have f1 := h.frozen 1
  have f2 := h.frozen 2
  have f3 := h.frozen 3
  have f4 := h.frozen 4
  simp only [putL]
  simp [go_sem, h0, h1, h2, f0, f1, f2, f3, f4]
theorem sto_V {t0 : TypeId} {p q : Value} (h : Blk w g t0 [p, q]) : (Instr.storeAt 130 (.pointer (some ⟨g, 0, none⟩)) (.agg #[.int .i64 b1, .int .i64 b2])).run Try.prog w = .ok () (putL w g 0 [.int .i64 b1, .int .i64 b2]) := by
  have h0 := h.cell 0
  have h1 := h.cell 1
  simp at h0 h1
  have f0 := h.frozen 0
  have f1 := h.frozen 1
  have f2 := h.frozen 2
  have f3 := h.frozen 3
  have f4 := h.frozen 4
  simp only [putL]
  simp [go_sem, h0, h1, f0, f1, f2, f3, f4]
theorem op_ldF {v : Value} (ho : o.op = .load 97 x) (hd : o.dst = some d) (hx : a.eval x = .pointer (some ⟨g, off, none⟩)) (h : w.cell? ⟨g, off, none⟩ = some v) : o.wp Try.prog a w (Post a w d (isV v).p) Q := op_load ho hd hx (by simp [go_sem, h]) rfl
theorem op_buP (ho : o.op = .build 104 #[(0, x), (1, y), (2, z)]) (h0 : a.eval x = .agg #[.int .i64 b1, .int .i64 b2, .slice A n k]) (h1 : a.eval y = .int .i64 b3) (h2 : a.eval z = .func fn fx fy) (w : World) : (execOp a.eval o).run Try.prog w = .ok (.value (.agg #[.int .i64 b1, .int .i64 b2, .slice A n k, .int .i64 b3, .func fn fx fy])) w := by
  generalize a.eval = ev at h0 h1 h2 ⊢
  unfold execOp
  simp only [ho]
  simp [go_sem, h0, h1, h2]
theorem op_buV (ho : o.op = .build 130 #[(0, x), (1, y)]) (h0 : a.eval x = .int .i64 b1) (h1 : a.eval y = .int .i64 b2) (w : World) : (execOp a.eval o).run Try.prog w = .ok (.value (.agg #[.int .i64 b1, .int .i64 b2])) w := by
  generalize a.eval = ev at h0 h1 ⊢
  unfold execOp
  simp only [ho]
  simp [go_sem, h0, h1]
theorem op_b0V (ho : o.op = .build 130 #[]) (w : World) : (execOp a.eval o).run Try.prog w = .ok (.value (.agg #[.int .i64 0, .int .i64 0])) w := by
  unfold execOp
  simp only [ho]
  simp [go_sem]
theorem run_fldC (b0 b1 b2 : Value) (W : World) : (Instr.field 107 (.agg #[b0, b1, b2]) 0).run Try.prog W = .ok b0 W := by
  simp [Instr.field, asAgg, go_sem]
theorem op_fldC0 (ho : o.op = .field 107 x 0) (h0 : a.eval x = .agg #[.bool c0, .bool c1, .bool c2]) (w : World) : (execOp a.eval o).run Try.prog w = .ok (.value (.bool c0)) w := by
  generalize a.eval = ev at h0 ⊢
  unfold execOp
  simp only [ho]
  simp [go_sem, h0, run_fldC]
theorem op_mkF1 {f : FuncId} {v : Value} (ho : o.op = .makeFunc (.func f) #[] #[x]) (h0 : a.eval x = v) (w : World) : (execOp a.eval o).run Try.prog w = .ok (.value (.func (.func f) #[] #[v])) w := by
  generalize a.eval = ev at h0 ⊢
  unfold execOp
  simp only [ho]
  simp [go_sem, h0]
theorem alloc_P (w : World) : (Instr.alloc 104 true (.tuple #[])).run Try.prog w = .ok (.pointer (some ⟨w.heap.size, 0, none⟩)) (w.alloc (.cells [.int .i64 0, .int .i64 0, .slice none 0 0, .int .i64 0, .nilFunc].toArray 104)) := by
  simp [go_sem]
theorem alloc_C (w : World) : (Instr.alloc 107 true (.tuple #[])).run Try.prog w = .ok (.pointer (some ⟨w.heap.size, 0, none⟩)) (w.alloc (.cells [.bool false, .bool false, .bool false].toArray 107)) := by
  simp [go_sem]
theorem alloc_V (w : World) : (Instr.alloc 130 true (.tuple #[])).run Try.prog w = .ok (.pointer (some ⟨w.heap.size, 0, none⟩)) (w.alloc (.cells [.int .i64 0, .int .i64 0].toArray 130)) := by
  simp [go_sem]
end
theorem op_callc2 {P : Program} {Q : Exit → Act → World → Prop} {o : Oper} {a : Act} {w : World} {d f : Nat} {R : Value → World → Prop} {x1 x2 y : Operand} {ts : Array TypeId} {c : Value}
    (hy : a.eval y = .func (.func f) #[] #[c]) (ho : o.op = .call { callee := .value y, args := #[x1, x2], argTypes := ts }) (hd : o.dst = some d)
    (hcf : ∀ args w, (callFunc f args).run P w = .ok (.enter f args) w) (hc : Calls P f #[a.eval x1, a.eval x2, c] w (Got w R)) : o.wp P a w (Post a w d R) Q := by
  have key : execOp a.eval o = callFunc f (#[] ++ #[x1, x2].map a.eval ++ #[c]) := by
    obtain ⟨dst, op, type, pos, after, guard⟩ := o
    simp only at ho
    subst ho
    unfold execOp
    simp only [resolve, hy]
    rfl
  unfold Oper.wp
  rw [key, hcf]
  simp only [Oper.upon, Array.empty_append, hd, List.map_toArray, List.map_cons, List.map_nil]
  refine hc.mono ?_
  rintro e w' ⟨v, rfl, hb, hr⟩
  exact ⟨v, rfl, hb, hr⟩
def colF (W H : Int) (xs : List Int) (x y : Int) : Int := xs.getD ((y % H) * W + x % W).toNat 0
def perG (W H : Int) : Nat → Int → Int
  | 0, n => n
  | k + 1, n => if n % H = 0 then n else perG W H k (n + W)
def perN (W H : Int) : Int := perG W H 8 W
theorem perN_eq {W H : Int} (hW : 1 ≤ W ∧ W ≤ 6) (hH : 1 ≤ H ∧ H ≤ 6) : (1 ≤ perN W H ∧ perN W H ≤ 30) ∧ perN W H % W = 0 ∧ perN W H % H = 0 := by
  obtain ⟨a, rfl⟩ : ∃ a : Nat, W = a := ⟨W.toNat, by omega⟩
  obtain ⟨b, rfl⟩ : ∃ b : Nat, H = b := ⟨H.toNat, by omega⟩
  have h : ∀ a : Fin 7, ∀ b : Fin 7, 1 ≤ (a : Nat) → 1 ≤ (b : Nat) → (1 ≤ perN ((a : Nat) : Int) ((b : Nat) : Int) ∧ perN ((a : Nat) : Int) ((b : Nat) : Int) ≤ 30) ∧ perN ((a : Nat) : Int) ((b : Nat) : Int) % ((a : Nat) : Int) = 0 ∧ perN ((a : Nat) : Int) ((b : Nat) : Int) % ((b : Nat) : Int) = 0 := by decide
  exact h ⟨a, by omega⟩ ⟨b, by omega⟩ (by show 1 ≤ a; omega) (by show 1 ≤ b; omega)
theorem perG_step {W H : Int} (k : Nat) {n : Int} (h : n % H ≠ 0) : perG W H (k + 1) n = perG W H k (n + W) := by
  show (if n % H = 0 then n else _) = _
  rw [if_neg h]
theorem perG_end {W H : Int} (k : Nat) {n : Int} (h : n % H = 0) : perG W H k n = n := by
  cases k with
  | zero => rfl
  | succ k =>
    show (if n % H = 0 then n else _) = _
    rw [if_pos h]
theorem per_ends {W H : Int} (hW : 1 ≤ W ∧ W ≤ 6) (hH : 1 ≤ H ∧ H ≤ 6) {q : Nat} (hq : q ≤ 5) (hno : ∀ j : Nat, j < q → (W + W * j) % H ≠ 0) (h2 : (W + W * q) % H ≠ 0) : q < 5 := by
  obtain ⟨a, rfl⟩ : ∃ a : Nat, W = a := ⟨W.toNat, by omega⟩
  obtain ⟨b, rfl⟩ : ∃ b : Nat, H = b := ⟨H.toNat, by omega⟩
  have h : ∀ a : Fin 7, ∀ b : Fin 7, 1 ≤ (b : Nat) → ∃ j : Fin 6, (((a : Nat) : Int) + ((a : Nat) : Int) * ((j : Nat) : Int)) % ((b : Nat) : Int) = 0 := by decide
  obtain ⟨j, hj⟩ := h ⟨a, by omega⟩ ⟨b, by omega⟩ (by show 1 ≤ b; omega)
  have hj2 := j.2
  by_cases h3 : (j : Nat) < q
  · exact absurd hj (hno _ h3)
  · by_cases h4 : (j : Nat) = q
    · rw [h4] at hj
      exact absurd hj h2
    · omega
theorem per_of {n : Int} {W H : Int} {xs : List Int} (hW : n % W = 0) (hH : n % H = 0) : Per n (colF W H xs) := fun x y i j => by
  obtain ⟨p, hp⟩ := Int.dvd_of_emod_eq_zero hW
  obtain ⟨q, hq⟩ := Int.dvd_of_emod_eq_zero hH
  unfold colF
  rw [show (x + n * i) % W = x % W by rw [hp, Int.mul_assoc, Int.add_mul_emod_self_left], show (y + n * j) % H = y % H by rw [hq, Int.mul_assoc, Int.add_mul_emod_self_left]]
end Go.Proofs.Ytddbmckbankmeaa
set_option linter.unusedVariables false
set_option linter.unusedSimpArgs false
namespace Go.Proofs.Ytddbmckbankmeaa
open Go.RowKit
def PerAt (W H : Int) (q : Nat) (m : Int) : Prop := q ≤ 5 ∧ m = W + W * q ∧ (∀ j : Nat, j < q → (W + W * j) % H ≠ 0) ∧ perN W H = perG W H (8 - q) m
section
variable {W H m : Int} {q : Nat}
theorem PerAt.start : PerAt W H 0 W := ⟨by omega, by simp, fun j hj => by omega, rfl⟩
theorem PerAt.bound (h : PerAt W H q m) (hW : 1 ≤ W ∧ W ≤ 6) : 1 ≤ m ∧ m ≤ 36 := by
  obtain ⟨h1, h2, _⟩ := h
  have := mul_b (a := W) (b := (q : Int)) (A := 6) (B := 5) (by omega) (by omega)
  omega
theorem PerAt.step (h : PerAt W H q m) (hW : 1 ≤ W ∧ W ≤ 6) (hH : 1 ≤ H ∧ H ≤ 6) (hne : m % H ≠ 0) : PerAt W H (q + 1) (m + W) := by
  obtain ⟨h1, h2, h3, h4⟩ := h
  have hq := per_ends hW hH h1 h3 (by rw [← h2]; exact hne)
  refine ⟨by omega, ?_, fun j hj => ?_, ?_⟩
  · rw [h2, Int.natCast_add, Int.mul_add]
    simp
    omega
  · by_cases e : j = q
    · rw [e, ← h2]
      exact hne
    · exact h3 j (by omega)
  · rw [h4, show 8 - q = (8 - (q + 1)) + 1 by omega, perG_step _ hne]
theorem PerAt.stop (h : PerAt W H q m) (he : m % H = 0) : perN W H = m := by rw [h.2.2.2, perG_end _ he]
end
theorem colF_lt {W H : Int} (hW : 1 ≤ W ∧ W ≤ 6) (hH : 1 ≤ H ∧ H ≤ 6) (x y : Int) : (0 ≤ x % W ∧ x % W < W) ∧ (0 ≤ y % H ∧ y % H < H) ∧ 0 ≤ (y % H) * W + x % W ∧ (y % H) * W + x % W < W * H := by
  have h1 := Int.emod_nonneg x (show W ≠ 0 by omega)
  have h2 := Int.emod_lt_of_pos x (show 0 < W by omega)
  have h3 := Int.emod_nonneg y (show H ≠ 0 by omega)
  have h4 := Int.emod_lt_of_pos y (show 0 < H by omega)
  have h5 := Int.mul_nonneg h3 (show 0 ≤ W by omega)
  have h6 := Int.mul_le_mul_of_nonneg_right (show y % H ≤ H - 1 by omega) (show 0 ≤ W by omega)
  rw [Int.sub_mul, Int.one_mul, Int.mul_comm H W] at h6
  exact ⟨⟨h1, h2⟩, ⟨h3, h4⟩, by omega, by omega⟩
def SymR (f : Int → Int → Int) (g : Bool) (k : Nat) (a b n : Int) (x y : Nat) : Prop := ∀ p q : Int, 0 ≤ p → 0 ≤ q → q < n → (p < x ∨ (p = x ∧ q < y)) → f ((trn g p q k).1 + a) ((trn g p q k).2 + b) = f p q
section
variable {f : Int → Int → Int} {g : Bool} {k : Nat} {a b n : Int} {x y : Nat}
theorem SymR.start : SymR f g k a b n 0 0 := fun p q h1 h2 h3 h4 => by omega
theorem SymR.cell (h : SymR f g k a b n x y) (he : f ((trn g x y k).1 + a) ((trn g x y k).2 + b) = f x y) : SymR f g k a b n x (y + 1) := fun p q h1 h2 h3 h4 => by
  by_cases e : p = x ∧ q = y
  · rw [e.1, e.2]
    exact he
  · exact h p q h1 h2 h3 (by omega)
theorem SymR.row (h : SymR f g k a b n x y) (he : n ≤ y) : SymR f g k a b n (x + 1) 0 := fun p q h1 h2 h3 h4 => h p q h1 h2 h3 (by omega)
theorem SymR.all (h : SymR f g k a b n x 0) (he : n ≤ x) : SymN n f g k a b := fun p q h1 h2 h3 h4 => h p q h1 h3 h4 (by omega)
theorem not_sym {p q : Int} (h : ¬ f ((trn g p q k).1 + a) ((trn g p q k).2 + b) = f p q) : ¬ Sym f g k a b := fun hs => h (hs p q)
end
def NoR (f : Int → Int → Int) (g : Bool) (k : Nat) (n : Int) (x y : Nat) : Prop := ∀ p q : Int, 0 ≤ p → 0 ≤ q → q < n → (p < x ∨ (p = x ∧ q < y)) → ¬ Sym f g k p q
section
variable {f : Int → Int → Int} {g : Bool} {k : Nat} {n : Int} {x y : Nat}
theorem NoR.start : NoR f g k n 0 0 := fun p q h1 h2 h3 h4 => by omega
theorem NoR.cell (h : NoR f g k n x y) (he : ¬ Sym f g k x y) : NoR f g k n x (y + 1) := fun p q h1 h2 h3 h4 => by
  by_cases e : p = x ∧ q = y
  · rw [e.1, e.2]
    exact he
  · exact h p q h1 h2 h3 (by omega)
theorem NoR.row (h : NoR f g k n x y) (he : n ≤ y) : NoR f g k n (x + 1) 0 := fun p q h1 h2 h3 h4 => h p q h1 h2 h3 (by omega)
theorem NoR.all (h : NoR f g k n x 0) (he : n ≤ x) (hn : 0 < n) (hp : Per n f) : ¬ Ex f g k := fun hs => by
  obtain ⟨p, q, hw, hs⟩ := (ex_win hn hp).2 hs
  exact h p q hw.1.1 hw.2.1 hw.2.2 (by omega) hs
end
end Go.Proofs.Ytddbmckbankmeaa
set_option linter.unusedVariables false
set_option linter.unusedSimpArgs false
namespace Go.Proofs.Ytddbmckbankmeaa
open Go.RowKit
theorem getD_set {bs : List Bool} {i j : Nat} {b : Bool} (hi : i < bs.length) : (bs.set i b).getD j false = if i = j then b else bs.getD j false := by
  rw [List.getD_eq_getElem?_getD, List.getD_eq_getElem?_getD, List.getElem?_set]
  split
  · next h =>
    subst h
    simp [hi]
  · rfl
theorem idx_ok {n x y : Int} (hx : 0 ≤ x ∧ x < n) (hy : 0 ≤ y ∧ y < n) : (0 ≤ x * n ∧ x * n ≤ n * n) ∧ 0 ≤ x * n + y ∧ x * n + y < n * n := by
  have h1 := Int.mul_nonneg hx.1 (show 0 ≤ n by omega)
  have h2 := Int.mul_le_mul_of_nonneg_right (show x ≤ n - 1 by omega) (show 0 ≤ n by omega)
  rw [Int.sub_mul, Int.one_mul] at h2
  omega
def SymL (f : Int → Int → Int) (g : Bool) (k : Nat) (n : Int) (bs : List Bool) (x y : Nat) : Prop :=
  (bs.length : Int) = n * n ∧ ∀ p q : Int, 0 ≤ p → p < n → 0 ≤ q → q < n → (p < x ∨ (p = x ∧ q < y)) → bs.getD (p * n + q).toNat false = bP (Sym f g k p q)
section
variable {f : Int → Int → Int} {g : Bool} {k : Nat} {n : Int} {bs : List Bool} {x y : Nat}
theorem SymL.start {N : Nat} (h : n * n = (N : Int)) : SymL f g k n (List.replicate N false) 0 0 := ⟨by rw [List.length_replicate, h], fun p q h1 h2 h3 h4 h5 => by omega⟩
theorem SymL.cell (h : SymL f g k n bs x y) (hx : (x : Int) < n) (hy : (y : Int) < n) : SymL f g k n (bs.set ((x : Int) * n + (y : Int)).toNat (bP (Sym f g k x y))) x (y + 1) := by
  obtain ⟨hl, h⟩ := h
  have hi := idx_ok (n := n) (x := x) (y := y) (by omega) (by omega)
  refine ⟨by rw [List.length_set, hl], fun p q h1 h2 h3 h4 h5 => ?_⟩
  have hj := idx_ok (n := n) (x := p) (y := q) (by omega) (by omega)
  rw [getD_set (by omega)]
  split
  · next e =>
    have := num_digits (H := n) (W := n) (a := p) (b := x) (x := q) (y := y) (by omega) (by omega) (by omega)
    rw [this.1, this.2]
  · next e => exact h p q h1 h2 h3 h4 (by
      by_cases e2 : p = x ∧ q = y
      · rw [e2.1, e2.2] at e
        exact absurd rfl e
      · omega)
theorem SymL.row (h : SymL f g k n bs x y) (he : n ≤ y) : SymL f g k n bs (x + 1) 0 := ⟨h.1, fun p q h1 h2 h3 h4 h5 => h.2 p q h1 h2 h3 h4 (by omega)⟩
theorem SymL.at_ (h : SymL f g k n bs x y) {p q : Int} (hp : 0 ≤ p ∧ p < n) (hq : 0 ≤ q ∧ q < n) (hx : p < x ∨ (p = x ∧ q < y)) : bs.getD (p * n + q).toNat false = bP (Sym f g k p q) := h.2 p q hp.1 hp.2 hq.1 hq.2 hx
def Em (f : Int → Int → Int) (g : Bool) (k : Nat) (n : Int) (e : Bool) (x y : Nat) : Prop := e = true ↔ NoR f g k n x y
theorem Em.start : Em f g k n true 0 0 := ⟨fun _ => NoR.start, fun _ => rfl⟩
theorem Em.cell {e : Bool} (h : Em f g k n e x y) (hy : (y : Int) < n) : Em f g k n (e && !bP (Sym f g k x y)) x (y + 1) := by
  unfold Em at h ⊢
  rw [Bool.and_eq_true, h, bP_not, bP_true]
  exact ⟨fun ⟨h1, h2⟩ => h1.cell h2, fun h1 => ⟨fun p q a1 a2 a3 a4 => h1 p q a1 a2 a3 (by omega), h1 x y (by omega) (by omega) hy (by omega)⟩⟩
theorem Em.row {e : Bool} (h : Em f g k n e x y) (he : n ≤ y) : Em f g k n e (x + 1) 0 := by
  unfold Em at h ⊢
  rw [h]
  exact ⟨fun h1 => h1.row he, fun h1 p q a1 a2 a3 a4 => h1 p q a1 a2 a3 (by omega)⟩
theorem Em.all {e : Bool} (h : Em f g k n e x 0) (he : n ≤ x) (hn : 0 < n) (hp : Per n f) : e = bP (¬ Ex f g k) :=
  bP_of ⟨fun h1 => (h.1 h1).all he hn hp, fun h1 => h.2 (fun p q _ _ _ _ hs => h1 ⟨p, q, hs⟩)⟩
end
def Mk (f : Int → Int → Int) (k : Nat) (n : Int) (Z : Int → Prop) (bs : List Bool) (a b : Int) : Prop :=
  (bs.length : Int) = 2 * n ∧ ∀ i : Int, 0 ≤ i → i < 2 * n → (bs.getD i.toNat false = true ↔ ∃ p q, Win2 n p q ∧ (p < a ∨ (p = a ∧ q < b)) ∧ Sym f true k p q ∧ axi k p q = i ∧ Z (far k p q))
section
variable {f : Int → Int → Int} {k : Nat} {n a b : Int} {Z : Int → Prop} {bs : List Bool}
theorem Mk.start {N : Nat} (h : 2 * n = (N : Int)) : Mk f k n Z (List.replicate N false) (-2 * n) (-2 * n) := ⟨by rw [List.length_replicate, h], fun i h1 h2 => ⟨fun h3 => by
    rw [List.getD_eq_getElem?_getD, List.getElem?_replicate] at h3
    split at h3 <;> simp at h3, fun ⟨p, q, hw, h3, _⟩ => by unfold Win2 at hw; omega⟩⟩
theorem Mk.skip (h : Mk f k n Z bs a b) (hno : ¬ (Sym f true k a b ∧ (0 ≤ axi k a b ∧ axi k a b < 2 * n) ∧ Z (far k a b))) : Mk f k n Z bs a (b + 1) := ⟨h.1, fun i h1 h2 => by
  rw [h.2 i h1 h2]
  constructor
  · rintro ⟨p, q, hw, h3, h4⟩
    exact ⟨p, q, hw, by omega, h4⟩
  · rintro ⟨p, q, hw, h3, h4, h5, h6⟩
    refine ⟨p, q, hw, ?_, h4, h5, h6⟩
    by_cases e : p = a ∧ q = b
    · obtain ⟨rfl, rfl⟩ := e
      exact absurd ⟨h4, by omega, h6⟩ hno
    · omega⟩
theorem Mk.row (h : Mk f k n Z bs a b) (hb : 2 * n ≤ b) : Mk f k n Z bs (a + 1) (-2 * n) := ⟨h.1, fun i h1 h2 => by
  rw [h.2 i h1 h2]
  constructor
  · rintro ⟨p, q, hw, h3, h4⟩
    exact ⟨p, q, hw, by omega, h4⟩
  · rintro ⟨p, q, hw, h3, h4⟩
    refine ⟨p, q, hw, ?_, h4⟩
    unfold Win2 at hw
    omega⟩
theorem Mk.all (h : Mk f k n Z bs a b) (ha : 2 * n ≤ a) {i : Int} (h1 : 0 ≤ i) (h2 : i < 2 * n) : bs.getD i.toNat false = true ↔ ∃ p q, Win2 n p q ∧ Sym f true k p q ∧ axi k p q = i ∧ Z (far k p q) := by
  rw [h.2 i h1 h2]
  constructor
  · rintro ⟨p, q, hw, h3, h4⟩
    exact ⟨p, q, hw, h4⟩
  · rintro ⟨p, q, hw, h4⟩
    refine ⟨p, q, hw, ?_, h4⟩
    unfold Win2 at hw
    omega
end
def Met (P : Nat → Prop) (m : Bool) (i : Nat) : Prop := m = true ↔ ∃ j, j < i ∧ P j
section
variable {P : Nat → Prop} {m : Bool} {i : Nat}
theorem Met.start : Met P false 0 := ⟨fun h => (by cases h), fun ⟨j, hj, _⟩ => (by omega)⟩
theorem Met.yes (h : P i) : Met P true (i + 1) := ⟨fun _ => ⟨i, by omega, h⟩, fun _ => rfl⟩
theorem Met.keep (h : Met P true i) : Met P true (i + 1) := ⟨fun _ => let ⟨j, h1, h2⟩ := h.1 rfl; ⟨j, by omega, h2⟩, fun _ => rfl⟩
theorem Met.no (h : Met P false i) (hn : ¬ P i) : Met P false (i + 1) := by
  refine ⟨fun h => (by cases h), ?_⟩
  rintro ⟨j, h1, h2⟩
  by_cases e : j = i
  · rw [e] at h2
    exact absurd h2 hn
  · exact h.2 ⟨j, by omega, h2⟩
theorem Met.or_ {b : Bool} (h : Met P false i) (hb : b = true ↔ P i) : Met P b (i + 1) := by
  cases b
  · exact h.no (fun hp => by have := hb.2 hp; cases this)
  · exact Met.yes (hb.1 rfl)
end
end Go.Proofs.Ytddbmckbankmeaa
set_option linter.unusedVariables false
set_option linter.unusedSimpArgs false
namespace Go.Proofs.Ytddbmckbankmeaa
open Go.RowKit
def knm : Nat → Value
  | 0 => .string { data := #[112, 52] }
  | 1 => .string { data := #[112, 52, 109] }
  | 2 => .string { data := #[112, 52, 103] }
  | 3 => .string { data := #[112, 50] }
  | 4 => .string { data := #[99, 109, 109] }
  | 5 => .string { data := #[112, 103, 103] }
  | 6 => .string { data := #[112, 109, 103] }
  | 7 => .string { data := #[112, 109, 109] }
  | 8 => .string { data := #[112, 49] }
  | 9 => .string { data := #[112, 103] }
  | 10 => .string { data := #[99, 109] }
  | _ => .string { data := #[112, 109] }
noncomputable def cntN (p : Nat → Prop) : Nat → Nat
  | 0 => 0
  | T + 1 => cntN p T + (bP (p T)).toNat
theorem cntN_four (p : Nat → Prop) : cntN p 4 = cnt p := by simp [cntN, cnt]
theorem cntN_yes {p : Nat → Prop} {T : Nat} (h : p T) : cntN p (T + 1) = cntN p T + 1 := by simp [cntN, bP_true.2 h]
theorem cntN_no {p : Nat → Prop} {T : Nat} (h : ¬ p T) : cntN p (T + 1) = cntN p T := by simp [cntN, bP_false.2 h]
theorem cntN_le (p : Nat → Prop) : ∀ T, cntN p T ≤ T
  | 0 => Nat.le_refl _
  | T + 1 => by
    have := cntN_le p T
    show cntN p T + (bP (p T)).toNat ≤ T + 1
    cases bP (p T) <;> simp <;> omega
theorem cntN_pos {p : Nat → Prop} : ∀ T, 0 < cntN p T ↔ ∃ k, k < T ∧ p k
  | 0 => ⟨fun h => absurd h (Nat.lt_irrefl 0), fun ⟨k, h, _⟩ => absurd h (Nat.not_lt_zero k)⟩
  | T + 1 => by
    by_cases h : p T
    · rw [cntN_yes h]
      exact ⟨fun _ => ⟨T, Nat.lt_succ_self T, h⟩, fun _ => Nat.succ_pos _⟩
    · rw [cntN_no h, cntN_pos T]
      constructor
      · rintro ⟨k, h1, h2⟩
        exact ⟨k, by omega, h2⟩
      · rintro ⟨k, h1, h2⟩
        by_cases e : k = T
        · rw [e] at h2
          exact absurd h2 h
        · exact ⟨k, by omega, h2⟩
end Go.Proofs.Ytddbmckbankmeaa
