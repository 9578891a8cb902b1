/- Part 3 of the texts behind this claim. -/
import Derived.Test.YtddbmckbankmeaaKm2
set_option linter.unusedVariables false
set_option linter.unusedSimpArgs false
namespace Go.Proofs.Ytddbmckbankmeaa
open Go.RowKit
theorem run_max2_int (k k' : IntKind) (x y : Int) : Builtin.max2 (.int k x) (.int k' y) = pure (.int k (if x < y then y else x)) := by simp only [Builtin.max2, gt_iff_lt]
theorem run_min2_int (k k' : IntKind) (x y : Int) : Builtin.min2 (.int k x) (.int k' y) = pure (.int k (if y < x then y else x)) := by simp only [Builtin.min2]
theorem run_max_two (ats : Array TypeId) (ty : TypeId) (a b : Value) : Builtin.max_ ats ty #[a, b] = (Builtin.max2 a b >>= fun s => pure s) := by simp only [Builtin.max_, List.foldlM_cons, List.foldlM_nil]
theorem run_min_two (ats : Array TypeId) (ty : TypeId) (a b : Value) : Builtin.min_ ats ty #[a, b] = (Builtin.min2 a b >>= fun s => pure s) := by simp only [Builtin.min_, List.foldlM_cons, List.foldlM_nil]
attribute [local go_sem] run_max2_int run_max_two run_min2_int run_min_two
section
variable {Q : Exit → Act → World → Prop} {o : Oper} {a : Act} {w : World} {d : Nat} {g off : Nat} {x y z : Operand} {ty : TypeId} {b c : Bool} {A : Option Addr} {n k : Nat} {m i j : Int} {v v' : Value}
theorem op_lssI (ho : o.op = .binOp .lss 3 x y ty) (hx : a.eval x = .int .i64 i) (hy : a.eval y = .int .i64 j) (w : World) : (execOp a.eval o).run Try.prog w = .ok (.value (.bool (decide (i < j)))) w := by
  generalize a.eval = ev at hx hy ⊢
  unfold execOp
  simp only [ho, hx, hy]
  simp [go_sem]
  
theorem op_leqI (ho : o.op = .binOp .leq 3 x y ty) (hx : a.eval x = .int .i64 i) (hy : a.eval y = .int .i64 j) (w : World) : (execOp a.eval o).run Try.prog w = .ok (.value (.bool (decide (i ≤ j)))) w := by
  generalize a.eval = ev at hx hy ⊢
  unfold execOp
  simp only [ho, hx, hy]
  simp [go_sem]
  
theorem op_gtrI (ho : o.op = .binOp .gtr 3 x y ty) (hx : a.eval x = .int .i64 i) (hy : a.eval y = .int .i64 j) (w : World) : (execOp a.eval o).run Try.prog w = .ok (.value (.bool (decide (j < i)))) w := by
  generalize a.eval = ev at hx hy ⊢
  unfold execOp
  simp only [ho, hx, hy]
  simp [go_sem]
  
theorem op_geqI (ho : o.op = .binOp .geq 3 x y ty) (hx : a.eval x = .int .i64 i) (hy : a.eval y = .int .i64 j) (w : World) : (execOp a.eval o).run Try.prog w = .ok (.value (.bool (decide (j ≤ i)))) w := by
  generalize a.eval = ev at hx hy ⊢
  unfold execOp
  simp only [ho, hx, hy]
  simp [go_sem]
  
theorem op_eqlI (ho : o.op = .binOp .eql 3 x y ty) (hx : a.eval x = .int .i64 i) (hy : a.eval y = .int .i64 j) (w : World) : (execOp a.eval o).run Try.prog w = .ok (.value (.bool (decide (i = j)))) w := by
  generalize a.eval = ev at hx hy ⊢
  unfold execOp
  simp only [ho, hx, hy]
  simp [go_sem]
  rfl
theorem op_neqI (ho : o.op = .binOp .neq 3 x y ty) (hx : a.eval x = .int .i64 i) (hy : a.eval y = .int .i64 j) (w : World) : (execOp a.eval o).run Try.prog w = .ok (.value (.bool (!decide (i = j)))) w := by
  generalize a.eval = ev at hx hy ⊢
  unfold execOp
  simp only [ho, hx, hy]
  simp [go_sem]
  rfl
theorem op_eqlE (ho : o.op = .binOp .eql 28 x y ty) (hx : a.eval x = .int .i64 i) (hy : a.eval y = .int .i64 j) (w : World) : (execOp a.eval o).run Try.prog w = .ok (.value (.bool (decide (i = j)))) w := by
  generalize a.eval = ev at hx hy ⊢
  unfold execOp
  simp only [ho, hx, hy]
  simp [go_sem]
  rfl
theorem op_neqE (ho : o.op = .binOp .neq 28 x y ty) (hx : a.eval x = .int .i64 i) (hy : a.eval y = .int .i64 j) (w : World) : (execOp a.eval o).run Try.prog w = .ok (.value (.bool (!decide (i = j)))) w := by
  generalize a.eval = ev at hx hy ⊢
  unfold execOp
  simp only [ho, hx, hy]
  simp [go_sem]
  rfl
theorem op_neqB (ho : o.op = .binOp .neq 4 x y ty) (hx : a.eval x = .bool b) (hy : a.eval y = .bool c) (w : World) : (execOp a.eval o).run Try.prog w = .ok (.value (.bool (b != c))) w := by
  generalize a.eval = ev at hx hy ⊢
  unfold execOp
  simp only [ho, hx, hy]
  cases b <;> cases c <;> simp [go_sem]
theorem op_rem (h0 : 0 < j) (hi : Fit i) (hi2 : i ≠ -9223372036854775808) (ho : o.op = .binOp .rem 3 x y ty) (hx : a.eval x = .int .i64 i) (hy : a.eval y = .int .i64 j) (w : World) : (execOp a.eval o).run Try.prog w = .ok (.value (.int .i64 (i.tmod j))) w := by
  have hj0 : ¬ j = 0 := by omega
  have hj1 : ¬ j = -1 := by omega
  have hf : Fit (i.tmod j) := by
    unfold Fit at hi ⊢
    have h1 := Int.natAbs_tmod i j
    have h2 := Nat.mod_le i.natAbs j.natAbs
    omega
  have hw := wrap_fit hf
  generalize a.eval = ev at hx hy ⊢
  unfold execOp
  simp only [ho, hx, hy]
  simp [go_sem, hj0, hj1, hw]
theorem op_quo (h0 : 0 < j) (hi : Fit i) (hi2 : i ≠ -9223372036854775808) (ho : o.op = .binOp .quo 3 x y ty) (hx : a.eval x = .int .i64 i) (hy : a.eval y = .int .i64 j) (w : World) : (execOp a.eval o).run Try.prog w = .ok (.value (.int .i64 (i.tdiv j))) w := by
  have hj0 : ¬ j = 0 := by omega
  have hj1 : ¬ j = -1 := by omega
  have hf : Fit (i.tdiv j) := by
    unfold Fit at hi ⊢
    have h2 := Int.natAbs_tdiv_le_natAbs i j
    omega
  have hw := wrap_fit hf
  generalize a.eval = ev at hx hy ⊢
  unfold execOp
  simp only [ho, hx, hy]
  simp [go_sem, hj0, hj1, hw]
theorem op_neg (hf : Fit (-i)) (ho : o.op = .unOp .neg 3 x) (hx : a.eval x = .int .i64 i) (w : World) : (execOp a.eval o).run Try.prog w = .ok (.value (.int .i64 (-i))) w := by
  have hw := wrap_fit hf
  generalize a.eval = ev at hx ⊢
  unfold execOp
  simp only [ho, hx]
  simp [go_sem, hw]
theorem op_not (ho : o.op = .unOp .not 4 x) (hx : a.eval x = .bool b) (w : World) : (execOp a.eval o).run Try.prog w = .ok (.value (.bool (!b))) w := by
  unfold execOp
  simp only [ho, hx]
  simp [go_sem]
theorem op_pickT (ho : o.op = .pick x y z) (hx : a.eval x = .bool true) (hy : a.eval y = v) (w : World) : (execOp a.eval o).run Try.prog w = .ok (.value v) w := by
  unfold execOp
  simp only [ho, hx, hy]
  simp [go_sem]
theorem op_pickF (ho : o.op = .pick x y z) (hx : a.eval x = .bool false) (hz : a.eval z = v) (w : World) : (execOp a.eval o).run Try.prog w = .ok (.value v) w := by
  unfold execOp
  simp only [ho, hx, hz]
  simp [go_sem]
theorem op_len (ho : o.op = .call { callee := .builtin .len, args := #[x], argTypes := #[22] }) (hd : o.dst = some d) (hx : a.eval x = .slice A n k) : o.wp Try.prog a w (Post a w d (isV (.int .i64 (n : Int))).p) Q := by
  refine op_run (v := .int .i64 (n : Int)) hd ?_ rfl
  generalize a.eval = ev at hx ⊢
  unfold execOp
  simp only [ho]
  simp [go_sem, hx]
theorem op_max (ho : o.op = .call { callee := .builtin .max, args := #[x, y], argTypes := #[3, 3] }) (hd : o.dst = some d) (hx : a.eval x = .int .i64 i) (hy : a.eval y = .int .i64 j) : o.wp Try.prog a w (Post a w d (isV (.int .i64 (if i < j then j else i))).p) Q := by
  refine op_run (v := .int .i64 (if i < j then j else i)) hd ?_ rfl
  generalize a.eval = ev at hx hy ⊢
  unfold execOp
  simp only [ho]
  simp [go_sem, hx, hy]
theorem op_min (ho : o.op = .call { callee := .builtin .min, args := #[x, y], argTypes := #[3, 3] }) (hd : o.dst = some d) (hx : a.eval x = .int .i64 i) (hy : a.eval y = .int .i64 j) : o.wp Try.prog a w (Post a w d (isV (.int .i64 (if j < i then j else i))).p) Q := by
  refine op_run (v := .int .i64 (if j < i then j else i)) hd ?_ rfl
  generalize a.eval = ev at hx hy ⊢
  unfold execOp
  simp only [ho]
  simp [go_sem, hx, hy]
theorem op_idx {ad : Addr} (h0 : 0 ≤ i) (h1 : i < (n : Int)) (ho : o.op = .indexAddr 22 x y) (hx : a.eval x = .slice (some ad) n k) (hy : a.eval y = .int .i64 i) (w : World) : (execOp a.eval o).run Try.prog w = .ok (.value (.pointer (some (ad.add i.toNat)))) w := by
  generalize a.eval = ev at hx hy ⊢
  unfold execOp
  simp only [ho, hx, hy]
  simp [go_sem, h0, h1]
theorem ld_at {p : Addr} (h : w.cell? p = some v) : (Instr.loadAt 3 (.pointer (some p))).run Try.prog w = .ok v w := by
  simp [go_sem, h]
theorem op_ldAt {p : Addr} (ho : o.op = .load 3 x) (hd : o.dst = some d) (hx : a.eval x = .pointer (some p)) (h : w.cell? p = some v) : o.wp Try.prog a w (Post a w d (isV v).p) Q := op_load ho hd hx (ld_at h) rfl
theorem Try.info_int : (Try.prog.info? 3).map (fun i => (i.zero, i.size, i.bytes)) = some (some (.int .i64 0), 1, 8) := by kernel_rfl
theorem ints_zeros (n : Nat) : List.replicate n (Value.int .i64 0) = ints (List.replicate n 0) := by simp [ints]
set_option maxRecDepth 100000 in
theorem make_ints (n : Nat) (hn : n ≤ 17592186044416) (w : World) :
    (Instr.makeSlice 22 (.int .i64 (n : Int)) (.int .i64 (n : Int))).run Try.prog w = .ok (.slice (some ⟨w.heap.size, 0, none⟩) n n) (w.alloc (.cells (ints (List.replicate n 0)).toArray 3)) := by
  obtain ⟨i0, hi, hz0, hz1, hz2⟩ := info_parts Try.info_int
  have hb : (i0.bytes : Int) * (n : Int) ≤ 281474976710656 := by rw [hz2]; omega
  have hr := run_make (P := Try.prog) w 22 3 i0 (.int .i64 0) (by kernel_rfl) hi hz0 .i64 .i64 n n (by omega) (by omega) hb (by omega)
  simp only [Int.toNat_natCast] at hr
  rw [hr]
  congr 3
  rw [← ints_zeros, hz1]
  apply Array.ext
  · simp [madeCells]
  intro i h1 h2
  simp [madeCells, Value.cells, Nat.mod_one]
def isF (lo : Nat) (xs : List Int) : SP := ⟨fun v w => ∃ g k rest, v = .slice (some ⟨g, 0, none⟩) xs.length k ∧ lo ≤ g ∧ xs.length ≤ k ∧ k ≤ 9223372036854775807 ∧ Blk w g 3 (ints xs ++ rest), fun v w w' ⟨g, k, rest, h1, h2, h3, h4, h5⟩ hb => ⟨g, k, rest, h1, h2, h3, h4, h5.to hb⟩⟩
theorem op_make (hn : n ≤ 17592186044416) (ho : o.op = .makeSlice 22 x y) (hd : o.dst = some d) (hx : a.eval x = .int .i64 (n : Int)) (hy : a.eval y = .int .i64 (n : Int)) (lo : Nat) (hl : lo ≤ w.heap.size) : o.wp Try.prog a w (Post a w d (isF lo (List.replicate n 0)).p) Q := by
  have hr : (execOp a.eval o).run Try.prog w = .ok (.value (.slice (some ⟨w.heap.size, 0, none⟩) n n)) (w.alloc (.cells (ints (List.replicate n 0)).toArray 3)) := by
    unfold execOp
    simp only [ho, hx, hy, Sem.run_bind, make_ints n hn, Result.andThen_ok, Sem.run_pure]
  unfold Oper.wp
  rw [hr]
  show Post a w d _ (a.put o.dst _) _
  rw [hd]
  have hB : Blk (w.alloc (.cells (ints (List.replicate n 0)).toArray 3)) w.heap.size 3 (ints (List.replicate n 0)) := heap_alloc_new _ _
  refine ⟨_, rfl, below_alloc (Below.refl _ _) _, w.heap.size, n, [], by simp, hl, by simp, by omega, by simpa using hB⟩
end
theorem tmod_nonneg {i j : Int} (h : 0 ≤ i) : i.tmod j = i % j := Int.tmod_eq_emod_of_nonneg h
theorem tdiv_nonneg {i j : Int} (h : 0 ≤ i) : i.tdiv j = i / j := Int.tdiv_eq_ediv_of_nonneg h
theorem tmod_wrap {i j : Int} (hj : 0 < j) : (i.tmod j + j).tmod j = i % j := by
  have h1 : 0 ≤ i.tmod j + j := by
    have h2 := Int.natAbs_tmod i j
    have h3 := Nat.mod_lt i.natAbs (show 0 < j.natAbs by omega)
    omega
  rw [tmod_nonneg h1, Int.add_emod_right]
  have h4 := Int.mul_tdiv_add_tmod i j
  conv => rhs; rw [← h4, Int.mul_add_emod_self_left]
theorem tmod_bound {i j : Int} (hj : 0 < j) : -j < i.tmod j ∧ i.tmod j < j := by
  have h2 := Int.natAbs_tmod i j
  have h3 := Nat.mod_lt i.natAbs (show 0 < j.natAbs by omega)
  omega
end Go.Proofs.Ytddbmckbankmeaa
