/- Part 27 of the texts behind this claim. -/
import Derived.Great.BuildSlice
import Derived.Test.YtcjcpfafalkceaaFq25
import Derived.Test.YtcjcpfafalkceaaFq26
set_option linter.unusedVariables false
set_option linter.unusedSimpArgs false
namespace Go.Proofs.Ytcjcpfafalkceaa
open Go.RowKit
section
variable {P : Program} {Q : Exit → Act → World → Prop} {o : Oper} {a : Act} {w : World} {d : Nat} {R : Value → World → Prop} {f : Nat} {x1 x2 x3 y : Operand} {ts : Array TypeId}
theorem op_call3 (ho : o.op = .call { callee := .value (.func f), args := #[x1, x2, x3], argTypes := ts }) (hd : o.dst = some d)
    (hcf : ∀ args w, (callFunc f args).run P w = .ok (.enter f args) w) (hc : Calls P f #[a.eval x1, a.eval x2, a.eval x3] w (Got w R)) : o.wp P a w (Post a w d R) Q :=
  op_call ho hd hcf (by simp) hc
theorem op_call0 (ho : o.op = .call { callee := .value (.func f), args := #[], argTypes := ts }) (hd : o.dst = some d)
    (hcf : ∀ args w, (callFunc f args).run P w = .ok (.enter f args) w) (hc : Calls P f #[] w (Got w R)) : o.wp P a w (Post a w d R) Q :=
  op_call ho hd hcf (by simp) hc
theorem op_callv2 (hy : a.eval y = .func (.func f) #[] #[]) (ho : o.op = .call { callee := .value y, args := #[x1, x2], argTypes := ts }) (hd : o.dst = some d)
    (hcf : ∀ args w, (callFunc f args).run P w = .ok (.enter f args) w) (hc : Calls P f #[a.eval x1, a.eval x2] w (Got w R)) : o.wp P a w (Post a w d R) Q := by
  have key : execOp a.eval o = callFunc f (#[] ++ #[x1, x2].map a.eval ++ #[]) := by
    obtain ⟨dst, op, type, pos, after, guard⟩ := o
    simp only at ho
    subst ho
    unfold execOp
    simp only [resolve, hy]
    rfl
  unfold Oper.wp
  rw [key, hcf]
  simp only [Oper.upon, Array.empty_append, Array.append_empty, hd, List.map_toArray, List.map_cons, List.map_nil]
  refine hc.mono ?_
  rintro e w' ⟨v, rfl, hb, hr⟩
  exact ⟨v, rfl, hb, hr⟩
end
section
variable {Q : Exit → Act → World → Prop} {o : Oper} {a : Act} {w : World} {d : Nat} {x y : Operand} {A : Option Addr} {l c : Nat} {k m : Int}
theorem op_lenn {n : Nat} (ho : o.op = .call { callee := .builtin .len, args := #[x], argTypes := #[68] }) (hd : o.dst = some d) (hx : (isN n).p (a.eval x) w) : o.wp Try.prog a w (Post a w d (isV (.int .i64 ((ln n : Nat) : Int))).p) Q := by
  obtain ⟨A, c, e, _⟩ := hx
  refine op_run (v := .int .i64 ((ln n : Nat) : Int)) hd ?_ rfl
  generalize a.eval = ev at e ⊢
  unfold execOp
  simp only [ho]
  simp [go_sem, e]
theorem op_lenw {n : Nat} (ho : o.op = .call { callee := .builtin .len, args := #[x], argTypes := #[22] }) (hd : o.dst = some d) (hx : (isN n).p (a.eval x) w) : o.wp Try.prog a w (Post a w d (isV (.int .i64 ((ln n : Nat) : Int))).p) Q := by
  obtain ⟨A, c, e, _⟩ := hx
  refine op_run (v := .int .i64 ((ln n : Nat) : Int)) hd ?_ rfl
  generalize a.eval = ev at e ⊢
  unfold execOp
  simp only [ho]
  simp [go_sem, e]
end
attribute [local go_sem] run_max2_int run_max_two
section
variable {Q : Exit → Act → World → Prop} {o : Oper} {a : Act} {w : World} {d : Nat} {x y : Operand} {ty : TypeId} {k m : Int} {c c' : CP} {u v u' v' x0 x1 x2 x3 : Value}
theorem op_max (ho : o.op = .call { callee := .builtin .max, args := #[x, y], argTypes := #[3, 3] }) (hd : o.dst = some d) (hx : a.eval x = .int .i64 k) (hy : a.eval y = .int .i64 m) : o.wp Try.prog a w (Post a w d (isV (.int .i64 (if k < m then m else k))).p) Q := by
  refine op_run (v := .int .i64 (if k < m then m else k)) hd ?_ rfl
  generalize a.eval = ev at hx hy ⊢
  unfold execOp
  simp only [ho]
  simp [go_sem, hx, hy]
theorem op_gtrc {n : Int} (ho : o.op = .binOp .gtr 3 x (.const (.int .i64 n)) ty) (hx : a.eval x = .int .i64 k) (w : World) : (execOp a.eval o).run Try.prog w = .ok (.value (.bool (decide (n < k)))) w := by
  have hc : a.eval (.const (.int .i64 n)) = .int .i64 n := rfl
  generalize a.eval = ev at hx hc ⊢
  unfold execOp
  simp only [ho, hx, hc]
  simp [go_sem]
theorem op_eql0 (ho : o.op = .binOp .eql 3 x (.const (.int .i64 0)) ty) (hx : a.eval x = .int .i64 k) (w : World) : (execOp a.eval o).run Try.prog w = .ok (.value (.bool (decide (k = 0)))) w := by
  have hc : a.eval (.const (.int .i64 0)) = .int .i64 0 := rfl
  generalize a.eval = ev at hx hc ⊢
  unfold execOp
  simp only [ho, hx, hc]
  simp [go_sem]
  rfl
theorem op_magV {z : Int} (ho : o.op = .field 70 x 1) (hx : (isZ z).p (a.eval x) w) : ∃ v, (∀ w, (execOp a.eval o).run Try.prog w = .ok (.value v) w) ∧ (isN z.natAbs).p v w := by
  obtain ⟨A, c, e, hn⟩ := hx
  refine ⟨.slice A (ln z.natAbs) c, fun w => ?_, A, c, rfl, hn⟩
  generalize a.eval = ev at e ⊢
  unfold execOp
  simp only [ho, e, Sem.run_bind, run_fld_whole, Result.andThen_ok, Sem.run_pure]
theorem op_b0R (ho : o.op = .build 58 #[]) : ∃ v, (∀ w, (execOp a.eval o).run Try.prog w = .ok (.value v) w) ∧ (isL [zC 0, zC 0]).p v w := by
  refine ⟨.agg #[.bool false, .slice none 0 0, .bool false, .slice none 0 0], fun w => ?_, isL_two.2 ⟨_, _, _, _, rfl, cp0 w, cp0 w⟩⟩
  unfold execOp
  simp only [ho]
  simp [go_sem]
theorem op_b0I (ho : o.op = .build 24 #[]) : ∃ v, (∀ w, (execOp a.eval o).run Try.prog w = .ok (.value v) w) ∧ (isZ 0).p v w := by
  refine ⟨.agg #[.bool false, .slice none 0 0], fun w => ?_, none, 0, by rw [show ln (Int.natAbs 0) = 0 from ln_zero]; rfl, NN.nil _ _ _ (by omega)⟩
  unfold execOp
  simp only [ho]
  simp [go_sem]
theorem bs_I2 (w : World) : (Instr.buildSlice 53 2 #[(0, .agg #[u, v]), (1, .agg #[u', v'])]).run Try.prog w = .ok (.slice (some ⟨w.heap.size, 0, none⟩) 2 2) (w.alloc (.cells #[u, v, u', v'] 24)) := by
  simp [go_sem]
theorem bs_R1 (w : World) : (Instr.buildSlice 127 1 #[(0, .agg #[u, v, u', v'])]).run Try.prog w = .ok (.slice (some ⟨w.heap.size, 0, none⟩) 1 1) (w.alloc (.cells #[u, v, u', v'] 58)) := by
  simp [go_sem]
theorem bs_R2 (w : World) : (Instr.buildSlice 127 2 #[(0, .agg #[u, v, u', v']), (1, .agg #[x0, x1, x2, x3])]).run Try.prog w = .ok (.slice (some ⟨w.heap.size, 0, none⟩) 2 2) (w.alloc (.cells #[u, v, u', v', x0, x1, x2, x3] 58)) := by
  simp [go_sem]
end
end Go.Proofs.Ytcjcpfafalkceaa
