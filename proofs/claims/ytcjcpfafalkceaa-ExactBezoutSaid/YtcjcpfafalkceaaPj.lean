/- Words for regions over whole numbers in struct variables. -/
import Derived.Test.YtcjcpfafalkceaaPi
import Derived.Test.YtcjcpfafalkceaaZA
set_option linter.unusedVariables false
set_option linter.unusedSimpArgs false
namespace Go.Proofs.Ytcjcpfafalkceaa
open Go.RowKit
/-- A struct variable that holds a whole number. -/
def HZ (w : World) (g : Nat) (t : TypeId) (z : Int) : Prop := ∃ A c, Blk w g t [.bool (decide (z < 0)), .slice A (ln z.natAbs) c] ∧ NN w A c z.natAbs
/-- A struct variable's block, whatever it holds. -/
def HB2 (w : World) (g : Nat) (t : TypeId) : Prop := ∃ b A l c, Blk w g t [.bool b, .slice A l c]
section
variable {w w' : World} {g h : Nat} {t t' : TypeId} {z z' : Int} {v : Value}
theorem HZ.to (hz : HZ w g t z) (hb : Below w.heap.size w w') : HZ w' g t z := let ⟨A, c, h1, h2⟩ := hz; ⟨A, c, h1.to hb, h2.to hb⟩
theorem HZ.any (hz : HZ w g t z) : HB2 w g t := let ⟨A, c, h1, _⟩ := hz; ⟨_, _, _, _, h1⟩
theorem HZ.lt (hz : HZ w g t z) : g < w.heap.size := let ⟨_, _, h1, _⟩ := hz; h1.lt
theorem HB2.lt (hz : HB2 w g t) : g < w.heap.size := let ⟨_, _, _, _, h1⟩ := hz; h1.lt
theorem HB2.to (hz : HB2 w g t) (hb : Below w.heap.size w w') : HB2 w' g t := let ⟨b, A, l, c, h1⟩ := hz; ⟨b, A, l, c, h1.to hb⟩
theorem HZ.ne_any (hz : HZ w g t z) (hk : HB2 w h t') (hne : t ≠ t') : g ≠ h := fun e => by
  subst e
  obtain ⟨A, c, h1, _⟩ := hz
  obtain ⟨b, A', l, c', h2⟩ := hk
  unfold Blk at h1 h2
  rw [h1] at h2
  injection h2 with h2
  injection h2 with _ h2
  exact hne h2
theorem isZ.to (hz : (isZ z).p v w) (hb : Below w.heap.size w w') : (isZ z).p v w' := (isZ z).st _ _ _ hz hb
/-- A struct variable is stored into. -/
def put2 (w : World) (g : Nat) (u v : Value) : World := (w.setCell ⟨g, 0, none⟩ u).setCell ⟨g, 1, none⟩ v
theorem NN.put {A : Option Addr} {c n : Nat} (hn : NN w A c n) (hb : HB2 w g t) (u v : Value) : NN (put2 w g u v) A c n := let ⟨_, _, _, _, h1⟩ := hb; nn_put2 hn h1
theorem HZ.put (hz : HZ w h t' z) (hb : HB2 w g t) (hne : h ≠ g) (u v : Value) : HZ (put2 w g u v) h t' z := let ⟨A, c, h1, h2⟩ := hz; ⟨A, c, blk_far2 h1 hne, h2.put hb u v⟩
theorem HB2.put (hz : HB2 w h t') (hne : h ≠ g) (u v : Value) : HB2 (put2 w g u v) h t' := let ⟨b, A, l, c, h1⟩ := hz; ⟨b, A, l, c, blk_far2 h1 hne⟩
theorem Blk.put_ {cs : List Value} (hz : Blk w h t' cs) (hne : h ≠ g) (u v : Value) : Blk (put2 w g u v) h t' cs := blk_far2 hz hne
theorem HZ.set {A : Option Addr} {c : Nat} (hb : HB2 w g t) (hn : NN w A c z.natAbs) : HZ (put2 w g (.bool (decide (z < 0))) (.slice A (ln z.natAbs) c)) g t z :=
  let ⟨_, _, _, _, h1⟩ := hb; ⟨A, c, blk_put2 h1, hn.put hb _ _⟩
theorem isZ.put (hz : (isZ z).p v w) (hb : HB2 w g t) (u x : Value) : (isZ z).p v (put2 w g u x) := let ⟨A, c, h1, h2⟩ := hz; ⟨A, c, h1, h2.put hb u x⟩
theorem below_put {B : Nat} {w0 : World} (hb : Below B w0 w) (hg : B ≤ g) (u v : Value) : Below B w0 (put2 w g u v) := below_put2 hb hg
end
section
variable {w wx w0 : World} {g g1 g2 h : Nat} {t t' t1 t2 : TypeId} {z : Int}
/-- Behind new variables that are stored into. -/
theorem HZ.new1 (hz : HZ w h t z) (hb : Below w.heap.size w wx) (hg : w.heap.size ≤ g) (hB : HB2 wx g t') (u v : Value) : HZ (put2 wx g u v) h t z := (hz.to hb).put hB (Nat.ne_of_lt (Nat.lt_of_lt_of_le hz.lt hg)) u v
theorem HB2.new1 (hz : HB2 w h t) (hb : Below w.heap.size w wx) (hg : w.heap.size ≤ g) (hB : HB2 wx g t') (u v : Value) : HB2 (put2 wx g u v) h t := (hz.to hb).put (Nat.ne_of_lt (Nat.lt_of_lt_of_le hz.lt hg)) u v
theorem HZ.new2 (hz : HZ w h t z) (hb : Below w.heap.size w wx) (hg1 : w.heap.size ≤ g1) (h1 : HB2 wx g1 t1) (hg2 : w.heap.size ≤ g2) (h2 : HB2 wx g2 t2) (hne : g1 ≠ g2) (u v u' v' : Value) : HZ (put2 (put2 wx g1 u v) g2 u' v') h t z :=
  (hz.new1 hb hg1 h1 u v).put (h2.put (Ne.symm hne) u v) (Nat.ne_of_lt (Nat.lt_of_lt_of_le hz.lt hg2)) u' v'
theorem HB2.new2 (hz : HB2 w h t) (hb : Below w.heap.size w wx) (hg1 : w.heap.size ≤ g1) (h1 : HB2 wx g1 t1) (hg2 : w.heap.size ≤ g2) (h2 : HB2 wx g2 t2) (hne : g1 ≠ g2) (u v u' v' : Value) : HB2 (put2 (put2 wx g1 u v) g2 u' v') h t :=
  (hz.new1 hb hg1 h1 u v).put (Nat.ne_of_lt (Nat.lt_of_lt_of_le hz.lt hg2)) u' v'
theorem Below.new1 (hB : Below w0.heap.size w0 w) (hb : Below w.heap.size w wx) (hg : w.heap.size ≤ g) (u v : Value) : Below w0.heap.size w0 (put2 wx g u v) := below_put (bel_then hB hb) (Nat.le_trans hB.size hg) u v
theorem Below.new2 (hB : Below w0.heap.size w0 w) (hb : Below w.heap.size w wx) (hg1 : w.heap.size ≤ g1) (hg2 : w.heap.size ≤ g2) (u v u' v' : Value) : Below w0.heap.size w0 (put2 (put2 wx g1 u v) g2 u' v') := below_put (Below.new1 hB hb hg1 u v) (Nat.le_trans hB.size hg2) u' v'
end
section
variable {P : Program} {f : Nat} {w : World} {x y z : Int} {v1 v2 : Value} {R : Value → World → Prop} {R0 : Ending → World → Prop}
/-- What a call's operation asks. -/
def Got (w : World) (R : Value → World → Prop) (e : Ending) (w' : World) : Prop := ∃ v, e = .returned v ∧ Below w.heap.size w w' ∧ R v w'
theorem RetZ.got {e : Ending} {w' : World} (h : RetZ z w e w') : Got w (isZ z).p e w' := let ⟨A, c, he, hn, hb⟩ := h; ⟨_, he, hb, A, c, rfl, hn⟩
theorem RetN.got {n : Nat} {e : Ending} {w' : World} (h : RetN n w e w') : Got w (isN n).p e w' := let ⟨A, c, he, hn, hb⟩ := h; ⟨_, he, hb, A, c, rfl, hn⟩
theorem RetZZ.got {e : Ending} {w' : World} (h : RetZZ x y w e w') : Got w (isZZ x y).p e w' := let ⟨A, c, A', c', he, h1, h2, hb⟩ := h; ⟨_, he, hb, A, c, A', c', rfl, h1, h2⟩
theorem same_got {u : Value} {e : Ending} {w' : World} (h : e = .returned u ∧ Below w.heap.size w w') : Got w (isV u).p e w' := ⟨u, h.1, h.2, rfl⟩
theorem drew_got {u : Value} {e : Ending} {w' : World} (h : e = .returned u ∧ ∃ q, w' = w.drewN q) : Got w (isV u).p e w' := by
  obtain ⟨h1, q, rfl⟩ := h
  exact ⟨u, h1, below_drewN (Below.refl _ _) _, rfl⟩
theorem eq_got {u : Value} {e : Ending} {w' : World} (h : e = .returned u ∧ w = w') : Got w (isV u).p e w' := by
  obtain ⟨h1, rfl⟩ := h
  exact ⟨u, h1, Below.refl _ _, rfl⟩
/-- A contract on two whole numbers, on values that are these. -/
theorem z2 (hC : ∀ A1 c1 A2 c2, NN w A1 c1 x.natAbs → NN w A2 c2 y.natAbs → Calls P f #[.agg #[.bool (decide (x < 0)), .slice A1 (ln x.natAbs) c1], .agg #[.bool (decide (y < 0)), .slice A2 (ln y.natAbs) c2]] w R0)
    (hR : ∀ e w', R0 e w' → Got w R e w') (h1 : (isZ x).p v1 w) (h2 : (isZ y).p v2 w) : Calls P f #[v1, v2] w (Got w R) := by
  obtain ⟨A1, c1, rfl, n1⟩ := h1
  obtain ⟨A2, c2, rfl, n2⟩ := h2
  exact (hC A1 c1 A2 c2 n1 n2).mono hR
theorem z1 (hC : ∀ A1 c1, NN w A1 c1 x.natAbs → Calls P f #[.agg #[.bool (decide (x < 0)), .slice A1 (ln x.natAbs) c1]] w R0)
    (hR : ∀ e w', R0 e w' → Got w R e w') (h1 : (isZ x).p v1 w) : Calls P f #[v1] w (Got w R) := by
  obtain ⟨A1, c1, rfl, n1⟩ := h1
  exact (hC A1 c1 n1).mono hR
/-- A call that hands on its number. -/
theorem z1_same (hC : ∀ A1 c1, Calls P f #[.agg #[.bool (decide (x < 0)), .slice A1 (ln x.natAbs) c1]] w fun e w' => e = .returned (.agg #[.bool (decide (x < 0)), .slice A1 (ln x.natAbs) c1]) ∧ Below w.heap.size w w') (h1 : (isZ x).p v1 w) : Calls P f #[v1] w (Got w (isZ x).p) := by
  obtain ⟨A1, c1, rfl, n1⟩ := h1
  exact (hC A1 c1).mono fun e w' ⟨he, hb⟩ => ⟨_, he, hb, A1, c1, rfl, n1.to hb⟩
theorem n2 {m n : Nat} (hC : ∀ A1 c1 A2 c2, NN w A1 c1 m → NN w A2 c2 n → Calls P f #[.slice A1 (ln m) c1, .slice A2 (ln n) c2] w R0)
    (hR : ∀ e w', R0 e w' → Got w R e w') (h1 : (isN m).p v1 w) (h2 : (isN n).p v2 w) : Calls P f #[v1, v2] w (Got w R) := by
  obtain ⟨A1, c1, rfl, n1⟩ := h1
  obtain ⟨A2, c2, rfl, n2⟩ := h2
  exact (hC A1 c1 A2 c2 n1 n2).mono hR
theorem n1 {m : Nat} (hC : ∀ A1 c1, NN w A1 c1 m → Calls P f #[.slice A1 (ln m) c1] w R0)
    (hR : ∀ e w', R0 e w' → Got w R e w') (h1 : (isN m).p v1 w) : Calls P f #[v1] w (Got w R) := by
  obtain ⟨A1, c1, rfl, n1⟩ := h1
  exact (hC A1 c1 n1).mono hR
end
section
variable {P : Program} {Q : Exit → Act → World → Prop} {o : Oper} {a : Act} {w : World} {d : Nat} {R : Value → World → Prop} {f : Nat} {x1 x2 : Operand} {ts : Array TypeId}
theorem op_call1 (ho : o.op = .call { callee := .value (.func f), args := #[x1], argTypes := ts }) (hd : o.dst = some d)
    (hcf : ∀ args w, (callFunc f args).run P w = .ok (.enter f args) w) (hc : Calls P f #[a.eval x1] w (Got w R)) : o.wp P a w (Post a w d R) Q :=
  op_call ho hd hcf (by simp) hc
theorem op_call2 (ho : o.op = .call { callee := .value (.func f), args := #[x1, x2], argTypes := ts }) (hd : o.dst = some d)
    (hcf : ∀ args w, (callFunc f args).run P w = .ok (.enter f args) w) (hc : Calls P f #[a.eval x1, a.eval x2] w (Got w R)) : o.wp P a w (Post a w d R) Q :=
  op_call ho hd hcf (by simp) hc
end
section
variable {Q : Exit → Act → World → Prop} {o : Oper} {a : Act} {w : World} {d : Nat} {z : Int} {g : Nat} {x : Operand}
theorem op_loadA (ho : o.op = .load 24 x) (hd : o.dst = some d) (hx : a.eval x = .pointer (some ⟨g, 0, none⟩)) (hz : HZ w g 24 z) : o.wp Try.prog a w (Post a w d (isZ z).p) Q :=
  let ⟨A, c, h1, h2⟩ := hz; op_load ho hd hx (load_api h1.c0 h1.c1) ⟨A, c, rfl, h2⟩
theorem op_loadW (ho : o.op = .load 70 x) (hd : o.dst = some d) (hx : a.eval x = .pointer (some ⟨g, 0, none⟩)) (hz : HZ w g 70 z) : o.wp Try.prog a w (Post a w d (isZ z).p) Q :=
  let ⟨A, c, h1, h2⟩ := hz; op_load ho hd hx (load_whole h1.c0 h1.c1) ⟨A, c, rfl, h2⟩
theorem op_loadR (ho : o.op = .load 38 x) (hd : o.dst = some d) (hx : a.eval x = .pointer (some ⟨g, 0, none⟩)) (hz : HZ w g 38 z) : o.wp Try.prog a w (Post a w d (isZ z).p) Q :=
  let ⟨A, c, h1, h2⟩ := hz; op_load ho hd hx (load_Z h1.c0 h1.c1) ⟨A, c, rfl, h2⟩
theorem op_fieldW (ho : o.op = .fieldAddr 70 x 1) (hx : a.eval x = .pointer (some ⟨g, 0, none⟩)) (w : World) : (execOp a.eval o).run Try.prog w = .ok (.value (.pointer (some ⟨g, 1, none⟩))) w := by
  unfold execOp
  simp only [ho, hx]
  simp [go_sem]
theorem op_fieldR (ho : o.op = .fieldAddr 38 x 1) (hx : a.eval x = .pointer (some ⟨g, 0, none⟩)) (w : World) : (execOp a.eval o).run Try.prog w = .ok (.value (.pointer (some ⟨g, 1, none⟩))) w := by
  unfold execOp
  simp only [ho, hx]
  simp [go_sem]
theorem load_nat {v : Value} (h : w.cell? ⟨g, 1, none⟩ = some v) : (Instr.loadAt 68 (.pointer (some ⟨g, 1, none⟩))).run Try.prog w = .ok v w := by
  simp [go_sem, h]
theorem load_Nat {v : Value} (h : w.cell? ⟨g, 1, none⟩ = some v) : (Instr.loadAt 36 (.pointer (some ⟨g, 1, none⟩))).run Try.prog w = .ok v w := by
  simp [go_sem, h]
theorem op_magW (ho : o.op = .load 68 x) (hd : o.dst = some d) (hx : a.eval x = .pointer (some ⟨g, 1, none⟩)) (hz : HZ w g 70 z) : o.wp Try.prog a w (Post a w d (isN z.natAbs).p) Q :=
  let ⟨A, c, h1, h2⟩ := hz; op_load ho hd hx (load_nat h1.c1) ⟨A, c, rfl, h2⟩
theorem op_magR (ho : o.op = .load 36 x) (hd : o.dst = some d) (hx : a.eval x = .pointer (some ⟨g, 1, none⟩)) (hz : HZ w g 38 z) : o.wp Try.prog a w (Post a w d (isN z.natAbs).p) Q :=
  let ⟨A, c, h1, h2⟩ := hz; op_load ho hd hx (load_Nat h1.c1) ⟨A, c, rfl, h2⟩
theorem op_leq0 {ty : TypeId} {k : Int} (ho : o.op = .binOp .leq 3 x (.const (.int .i64 0)) ty) (hx : a.eval x = .int .i64 k) (w : World) : (execOp a.eval o).run Try.prog w = .ok (.value (.bool (decide (k ≤ 0)))) w := by
  unfold execOp
  have hc : a.eval (.const (.int .i64 0)) = .int .i64 0 := rfl
  simp only [ho, hx, hc]
  simp [go_sem]
theorem op_gtr0 {ty : TypeId} {k : Int} (ho : o.op = .binOp .gtr 3 x (.const (.int .i64 0)) ty) (hx : a.eval x = .int .i64 k) (w : World) : (execOp a.eval o).run Try.prog w = .ok (.value (.bool (decide (0 < k)))) w := by
  unfold execOp
  have hc : a.eval (.const (.int .i64 0)) = .int .i64 0 := rfl
  simp only [ho, hx, hc]
  simp [go_sem]
end
section
variable {w W : World} {t1 t2 t3 t4 t5 : TypeId} {x0 x1 y0 y1 r0 r1 s0 s1 p0 p1 : Value}
theorem boxes5 (h : W = ((((w.alloc (.cells #[x0, x1] t1)).alloc (.cells #[y0, y1] t2)).alloc (.cells #[r0, r1] t3)).alloc (.cells #[s0, s1] t4)).alloc (.cells #[p0, p1] t5)) : Blk W w.heap.size t1 [x0, x1] ∧ Blk W (w.heap.size + 1) t2 [y0, y1] ∧ Blk W (w.heap.size + 1 + 1) t3 [r0, r1] ∧ Blk W (w.heap.size + 1 + 1 + 1) t4 [s0, s1] ∧ Blk W (w.heap.size + 1 + 1 + 1 + 1) t5 [p0, p1] ∧ Below w.heap.size w W := by
  obtain ⟨a, b, c, d, e⟩ := boxes4 (w := w) (t1 := t1) (t2 := t2) (t3 := t3) (t4 := t4) (x0 := x0) (x1 := x1) (y0 := y0) (y1 := y1) (r0 := r0) (r1 := r1) (s0 := s0) (s1 := s1) rfl
  subst h
  refine ⟨a.alloc _, b.alloc _, c.alloc _, d.alloc _, ?_, below_alloc e _⟩
  have := heap_alloc_new ((((w.alloc (.cells #[x0, x1] t1)).alloc (.cells #[y0, y1] t2)).alloc (.cells #[r0, r1] t3)).alloc (.cells #[s0, s1] t4)) (.cells #[p0, p1] t5)
  simp only [World.size_alloc] at this
  exact this
end
/-- Three struct results are stored. -/
theorem three_put {w : World} {g h k : Nat} {t : TypeId} (b1 : HB2 w g t) (b2 : HB2 w h t) (b3 : HB2 w k t) (h12 : g ≠ h) (h13 : g ≠ k) (h23 : h ≠ k) (u1 v1 u2 v2 u3 v3 : Value) :
    Blk (put2 (put2 (put2 w g u1 v1) h u2 v2) k u3 v3) g t [u1, v1] ∧ Blk (put2 (put2 (put2 w g u1 v1) h u2 v2) k u3 v3) h t [u2, v2] ∧ Blk (put2 (put2 (put2 w g u1 v1) h u2 v2) k u3 v3) k t [u3, v3] := by
  obtain ⟨_, _, _, _, b1⟩ := b1
  obtain ⟨_, _, _, _, b2⟩ := b2
  obtain ⟨_, _, _, _, b3⟩ := b3
  exact ⟨((blk_put2 b1).put_ h12 _ _).put_ h13 _ _, (blk_put2 (b2.put_ (Ne.symm h12) _ _)).put_ h23 _ _, blk_put2 ((b3.put_ (Ne.symm h13) _ _).put_ (Ne.symm h23) _ _)⟩
theorem three_nn {w : World} {g h k : Nat} {t : TypeId} (b1 : HB2 w g t) (b2 : HB2 w h t) (b3 : HB2 w k t) (h12 : g ≠ h) (h13 : g ≠ k) (h23 : h ≠ k) (u1 v1 u2 v2 u3 v3 : Value) {A : Option Addr} {c n : Nat} (hn : NN w A c n) :
    NN (put2 (put2 (put2 w g u1 v1) h u2 v2) k u3 v3) A c n :=
  ((hn.put b1 _ _).put (b2.put (Ne.symm h12) _ _) _ _).put ((b3.put (Ne.symm h13) _ _).put (Ne.symm h23) _ _) _ _
theorem three_below {w w0 : World} {B g h k : Nat} (hb : Below B w0 w) (h1 : B ≤ g) (h2 : B ≤ h) (h3 : B ≤ k) (u1 v1 u2 v2 u3 v3 : Value) : Below B w0 (put2 (put2 (put2 w g u1 v1) h u2 v2) k u3 v3) := below_put (below_put (below_put hb h1 _ _) h2 _ _) h3 _ _
/-- Three numbers and a code. -/
def RetZ3 (z1 z2 z3 err : Int) (w : World) (e : Ending) (w' : World) : Prop := ∃ A1 c1 A2 c2 A3 c3, e = .returned (.tuple #[.agg #[.bool (decide (z1 < 0)), .slice A1 (ln z1.natAbs) c1], .agg #[.bool (decide (z2 < 0)), .slice A2 (ln z2.natAbs) c2], .agg #[.bool (decide (z3 < 0)), .slice A3 (ln z3.natAbs) c3], .int .i64 err]) ∧ NN w' A1 c1 z1.natAbs ∧ NN w' A2 c2 z2.natAbs ∧ NN w' A3 c3 z3.natAbs ∧ Below w.heap.size w w'
end Go.Proofs.Ytcjcpfafalkceaa
