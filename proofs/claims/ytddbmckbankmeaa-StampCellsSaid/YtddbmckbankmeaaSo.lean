/- Variables whose cells are written out; operations on ints, bools, slices, structs of these. -/
import Derived.Test.YtddbmckbankmeaaPd
set_option linter.unusedVariables false
set_option linter.unusedSimpArgs false
namespace Go.Proofs.Ytddbmckbankmeaa
open Go.RowKit
/-- All variables of a function: blocks that are known whole. -/
structure Ent where
  g : Nat
  t : TypeId
  vs : List Value
def Env (w : World) : List Ent → Prop
  | [] => True
  | e :: L => Blk w e.g e.t e.vs ∧ (∀ e' ∈ L, e'.g ≠ e.g) ∧ Env w L
/-- Cells are stored, one behind the other. -/
def putL (w : World) (g o : Nat) : List Value → World
  | [] => w
  | v :: vs => putL (w.setCell ⟨g, o, none⟩ v) g (o + 1) vs
section
variable {w w' : World} {L : List Ent} {e e' : Ent} {g h i o : Nat} {t t' : TypeId} {us vs : List Value} {u v : Value}
theorem putL_far : ∀ (vs : List Value) (w : World) (o : Nat), Blk w h t us → h ≠ g → Blk (putL w g o vs) h t us
  | [], _, _, k, _ => k
  | v :: vs, w, o, k, hne => putL_far vs _ (o + 1) (k.far (p := ⟨g, o, none⟩) hne v) hne
theorem putL_below {B : Nat} {w0 : World} (hg : B ≤ g) : ∀ (vs : List Value) (w : World) (o : Nat), Below B w0 w → Below B w0 (putL w g o vs)
  | [], _, _, k => k
  | v :: vs, w, o, k => putL_below hg vs _ (o + 1) (below_set k hg v)
theorem putL_blk : ∀ (vs : List Value) (w : World) (ps us : List Value), us.length = vs.length → Blk w g t (ps ++ us) → Blk (putL w g ps.length vs) g t (ps ++ vs)
  | [], w, ps, us, hl, k => by
    obtain rfl : us = [] := List.eq_nil_of_length_eq_zero (by simpa using hl)
    exact k
  | v :: vs, w, ps, us, hl, k => by
    obtain ⟨u, us, rfl⟩ : ∃ u l, us = u :: l := by
      cases us with
      | nil => simp at hl
      | cons u l => exact ⟨u, l, rfl⟩
    have k1 := k.set_ ps.length v
    have e1 : (ps ++ u :: us).set ps.length v = (ps ++ [v]) ++ us := by simp
    rw [e1] at k1
    have k2 := putL_blk vs _ (ps ++ [v]) us (by simpa using hl) k1
    rw [List.length_append, List.length_singleton] at k2
    show Blk (putL _ g (ps.length + 1) vs) g t (ps ++ v :: vs)
    rw [show ps ++ v :: vs = (ps ++ [v]) ++ vs by simp]
    exact k2
theorem putL_full (k : Blk w g t us) (hl : us.length = vs.length) : Blk (putL w g 0 vs) g t vs := putL_blk vs w [] us hl k
theorem putL_one (k : Blk w g t us) : Blk (putL w g o [v]) g t (us.set o v) := k.set_ o v
theorem Env.to : ∀ {L : List Ent}, Env w L → Below w.heap.size w w' → Env w' L
  | [], _, _ => trivial
  | e :: L, ⟨h1, h2, h3⟩, hb => ⟨h1.to hb, h2, Env.to h3 hb⟩
theorem Env.mem : ∀ {L : List Ent}, Env w L → e ∈ L → Blk w e.g e.t e.vs
  | e0 :: L, ⟨h1, h2, h3⟩, h => by
    rcases List.mem_cons.1 h with rfl | h
    · exact h1
    · exact Env.mem h3 h
theorem Env.get (k : Env w L) (i : Nat) (hi : L[i]? = some ⟨g, t, vs⟩) : Blk w g t vs := k.mem (e := ⟨g, t, vs⟩) (List.mem_of_getElem? hi)
theorem Env.cell (k : Env w L) (i o : Nat) (hi : L[i]? = some ⟨g, t, vs⟩) (ho : vs[o]? = some v) : w.cell? ⟨g, o, none⟩ = some v := ((k.get i hi).cell o).trans ho
theorem Env.addne : ∀ {L : List Ent}, Env w L → Blk w e.g e.t e.vs → (∀ e' ∈ L, e'.g ≠ e.g) → Env w (L ++ [e])
  | [], _, he, _ => ⟨he, fun e' h => (by cases h), trivial⟩
  | e0 :: L, ⟨h1, h2, h3⟩, he, hl => ⟨h1, fun e' h => by
      rcases List.mem_append.1 h with h | h
      · exact h2 e' h
      · rcases List.mem_singleton.1 h with rfl
        exact Ne.symm (hl e0 (List.mem_cons_self ..)), Env.addne h3 he (fun e' h => hl e' (List.mem_cons_of_mem _ h))⟩
theorem Env.lt (k : Env w L) : ∀ e ∈ L, e.g < w.heap.size := fun e he => (k.mem he).lt
theorem Env.new (k : Env w L) (hb : Below w.heap.size w w') (hg : w.heap.size ≤ g) (he : Blk w' g t vs) : Env w' (L ++ [⟨g, t, vs⟩]) :=
  Env.addne (e := ⟨g, t, vs⟩) (k.to hb) he (fun e' h' => Nat.ne_of_lt (Nat.lt_of_lt_of_le (k.lt e' h') hg))
theorem Env.far : ∀ {L : List Ent}, Env w L → (∀ e' ∈ L, e'.g ≠ g) → Env (putL w g o vs) L
  | [], _, _ => trivial
  | e :: L, ⟨h1, h2, h3⟩, hne => ⟨putL_far _ _ _ h1 (hne e (List.mem_cons_self ..)), h2, Env.far h3 (fun e' h => hne e' (List.mem_cons_of_mem _ h))⟩
theorem Env.put : ∀ {L : List Ent} (i : Nat) {g : Nat} {t : TypeId} {us us' : List Value}, Env w L → L[i]? = some ⟨g, t, us⟩ → Blk (putL w g o vs) g t us' → Env (putL w g o vs) (L.set i ⟨g, t, us'⟩)
  | e :: L, 0, g, t, us, us', ⟨h1, h2, h3⟩, hi, hk => by
    obtain rfl : e = ⟨g, t, us⟩ := by simpa using hi
    exact ⟨hk, h2, Env.far h3 h2⟩
  | e :: L, i + 1, g, t, us, us', ⟨h1, h2, h3⟩, hi, hk => by
    have hi' : L[i]? = some ⟨g, t, us⟩ := by simpa using hi
    have hm := List.mem_of_getElem? hi'
    refine ⟨putL_far _ _ _ h1 (Ne.symm (h2 _ hm)), ?_, Env.put i h3 hi' hk⟩
    intro e' he'
    rcases List.mem_or_eq_of_mem_set he' with h | rfl
    · exact h2 e' h
    · exact (show g ≠ e.g from h2 ⟨g, t, us⟩ hm)
/-- A struct is stored whole; one cell is stored. -/
theorem Env.putF (i : Nat) (k : Env w L) (hi : L[i]? = some ⟨g, t, us⟩) (hl : us.length = vs.length) : Env (putL w g 0 vs) (L.set i ⟨g, t, vs⟩) := k.put i hi (putL_full (k.get i hi) hl)
theorem Env.putO (i : Nat) (k : Env w L) (hi : L[i]? = some ⟨g, t, us⟩) : Env (putL w g o [v]) (L.set i ⟨g, t, us.set o v⟩) := k.put i hi (putL_one (k.get i hi))
end
section
variable {w W : World} {t1 t2 t3 t4 : TypeId} {v1 v2 v3 v4 : List Value}
theorem env_more {L : List Ent} (k : Env w L) : Env (w.alloc (.cells v1.toArray t1)) (L ++ [⟨w.heap.size, t1, v1⟩]) :=
  k.new (below_alloc (Below.refl _ _) _) (Nat.le_refl _) (heap_alloc_new _ _)
theorem env_one (e : W = w.alloc (.cells v1.toArray t1)) : Env W [⟨w.heap.size, t1, v1⟩] ∧ Below w.heap.size w W := by
  subst e
  exact ⟨env_more (L := []) trivial, below_alloc (Below.refl _ _) _⟩
theorem env_two (e : W = (w.alloc (.cells v1.toArray t1)).alloc (.cells v2.toArray t2)) : Env W [⟨w.heap.size, t1, v1⟩, ⟨w.heap.size + 1, t2, v2⟩] ∧ Below w.heap.size w W := by
  subst e
  have a1 := env_one (w := w) (t1 := t1) (v1 := v1) rfl
  have a2 := env_more (t1 := t2) (v1 := v2) a1.1
  rw [show (w.alloc (.cells v1.toArray t1)).heap.size = w.heap.size + 1 by simp] at a2
  exact ⟨a2, below_alloc a1.2 _⟩
theorem env_three (e : W = ((w.alloc (.cells v1.toArray t1)).alloc (.cells v2.toArray t2)).alloc (.cells v3.toArray t3)) :
    Env W [⟨w.heap.size, t1, v1⟩, ⟨w.heap.size + 1, t2, v2⟩, ⟨w.heap.size + 1 + 1, t3, v3⟩] ∧ Below w.heap.size w W := by
  subst e
  have a2 := env_two (w := w) (t1 := t1) (t2 := t2) (v1 := v1) (v2 := v2) rfl
  have a3 := env_more (t1 := t3) (v1 := v3) a2.1
  rw [show ((w.alloc (.cells v1.toArray t1)).alloc (.cells v2.toArray t2)).heap.size = w.heap.size + 1 + 1 by simp] at a3
  exact ⟨a3, below_alloc a2.2 _⟩
theorem env_four (e : W = (((w.alloc (.cells v1.toArray t1)).alloc (.cells v2.toArray t2)).alloc (.cells v3.toArray t3)).alloc (.cells v4.toArray t4)) :
    Env W [⟨w.heap.size, t1, v1⟩, ⟨w.heap.size + 1, t2, v2⟩, ⟨w.heap.size + 1 + 1, t3, v3⟩, ⟨w.heap.size + 1 + 1 + 1, t4, v4⟩] ∧ Below w.heap.size w W := by
  subst e
  have a3 := env_three (w := w) (t1 := t1) (t2 := t2) (t3 := t3) (v1 := v1) (v2 := v2) (v3 := v3) rfl
  have a4 := env_more (t1 := t4) (v1 := v4) a3.1
  rw [show (((w.alloc (.cells v1.toArray t1)).alloc (.cells v2.toArray t2)).alloc (.cells v3.toArray t3)).heap.size = w.heap.size + 1 + 1 + 1 by simp] at a4
  exact ⟨a4, below_alloc a3.2 _⟩
end
/-! Calls. -/
def Got (w : World) (R : Value → World → Prop) (e : Ending) (w' : World) : Prop := ∃ v, e = .returned v ∧ Below w.heap.size w w' ∧ R v w'
/-- Two results. -/
def isP (s t : SP) : SP := ⟨fun v w => ∃ x y, v = .tuple #[x, y] ∧ s.p x w ∧ t.p y w, fun v w w' ⟨x, y, h, h1, h2⟩ hb => ⟨x, y, h, s.st _ _ _ h1 hb, t.st _ _ _ h2 hb⟩⟩
section
variable {P : Program} {Q : Exit → Act → World → Prop} {ops : Array Oper} {rest : List Oper} {o : Oper} {a : Act} {w w' : World} {d : Nat} {R : Value → World → Prop} {f : Nat} {x1 x2 x3 x4 y : Operand} {ts : Array TypeId} {T : TypeId} {p v : Value}
theorem same_got {u : Value} {e : Ending} (h : e = .returned u ∧ Below w.heap.size w w') : Got w (isV u).p e w' := ⟨u, h.1, h.2, rfl⟩
theorem op_call0 (ho : o.op = .call { callee := .value (.func f), args := #[], argTypes := ts }) (hd : o.dst = some d)
    (hcf : ∀ args w, (callFunc f args).run P w = .ok (.enter f args) w) (hc : Calls P f #[] w (Got w R)) : o.wp P a w (Post a w d R) Q := op_call ho hd hcf (by simp) hc
theorem op_call1 (ho : o.op = .call { callee := .value (.func f), args := #[x1], argTypes := ts }) (hd : o.dst = some d)
    (hcf : ∀ args w, (callFunc f args).run P w = .ok (.enter f args) w) (hc : Calls P f #[a.eval x1] w (Got w R)) : o.wp P a w (Post a w d R) Q := op_call ho hd hcf (by simp) hc
theorem op_call2 (ho : o.op = .call { callee := .value (.func f), args := #[x1, x2], argTypes := ts }) (hd : o.dst = some d)
    (hcf : ∀ args w, (callFunc f args).run P w = .ok (.enter f args) w) (hc : Calls P f #[a.eval x1, a.eval x2] w (Got w R)) : o.wp P a w (Post a w d R) Q := op_call ho hd hcf (by simp) hc
theorem op_call3 (ho : o.op = .call { callee := .value (.func f), args := #[x1, x2, x3], argTypes := ts }) (hd : o.dst = some d)
    (hcf : ∀ args w, (callFunc f args).run P w = .ok (.enter f args) w) (hc : Calls P f #[a.eval x1, a.eval x2, a.eval x3] w (Got w R)) : o.wp P a w (Post a w d R) Q := op_call ho hd hcf (by simp) hc
theorem op_call4 (ho : o.op = .call { callee := .value (.func f), args := #[x1, x2, x3, x4], argTypes := ts }) (hd : o.dst = some d)
    (hcf : ∀ args w, (callFunc f args).run P w = .ok (.enter f args) w) (hc : Calls P f #[a.eval x1, a.eval x2, a.eval x3, a.eval x4] w (Got w R)) : o.wp P a w (Post a w d R) Q := op_call ho hd hcf (by simp) hc
theorem op_callv1 (hy : a.eval y = .func (.func f) #[] #[]) (ho : o.op = .call { callee := .value y, args := #[x1], argTypes := ts }) (hd : o.dst = some d)
    (hcf : ∀ args w, (callFunc f args).run P w = .ok (.enter f args) w) (hc : Calls P f #[a.eval x1] w (Got w R)) : o.wp P a w (Post a w d R) Q := by
  have key : execOp a.eval o = callFunc f (#[] ++ #[x1].map a.eval ++ #[]) := by
    obtain ⟨dst, op, type, pos, after, guard⟩ := o
    simp only at ho
    subst ho
    unfold execOp
    simp only [resolve, hy]
    rfl
  unfold Oper.wp
  rw [key, hcf]
  simp only [Oper.upon, Array.empty_append, Array.append_empty, hd, List.map_toArray, List.map_cons, List.map_nil]
  refine hc.mono ?_
  rintro e w' ⟨v, rfl, hb, hr⟩
  exact ⟨v, rfl, hb, hr⟩
theorem wpList_st (hg : o.guard = none) (hd : o.dst = none) (ho : o.op = .store T x1 y) (hx : a.eval x1 = p) (hy : a.eval y = v)
    (hs : (Instr.storeAt T p v).run P w = .ok () w') (h : wpList P ops Q rest a w') : wpList P ops Q (o :: rest) a w := by
  unfold wpList
  rw [if_pos (by simp [Region.wanted, hg])]
  refine .inl ?_
  unfold Oper.wp execOp
  simp only [ho, hx, hy, Sem.run_bind, hs, Result.andThen_ok, Sem.run_pure, Oper.upon, hd, Act.put]
  exact h
theorem op_mv {s : SP} (ho : o.op = .move y) (hx : s.p (a.eval y) w) : ∃ v, (∀ w, (execOp a.eval o).run P w = .ok (.value v) w) ∧ s.p v w := ⟨_, op_move ho rfl, hx⟩
theorem op_fst {s t : SP} (ho : o.op = .extract y 0) (hx : (isP s t).p (a.eval y) w) : ∃ v, (∀ w, (execOp a.eval o).run P w = .ok (.value v) w) ∧ s.p v w := by
  obtain ⟨y, z, h, h1, h2⟩ := hx
  exact ⟨y, op_extract ho h rfl, h1⟩
theorem op_snd {s t : SP} (ho : o.op = .extract y 1) (hx : (isP s t).p (a.eval y) w) : ∃ v, (∀ w, (execOp a.eval o).run P w = .ok (.value v) w) ∧ t.p v w := by
  obtain ⟨y, z, h, h1, h2⟩ := hx
  exact ⟨z, op_extract ho h rfl, h2⟩
theorem pure_b {R : Value → Prop} {u u' : Value} {w : World} (h : u = u') (hc : ∃ v, R v ∧ (isV u).p v w) : ∃ v, R v ∧ (isV u').p v w := by
  subst h
  exact hc
theorem wp_b {u u' : Value} (h : u = u') (hc : o.wp P a w (Post a w d (isV u).p) Q) : o.wp P a w (Post a w d (isV u').p) Q := by
  subst h
  exact hc
theorem bool_eq {b b' : Bool} (h : b = b') : Value.bool b = .bool b' := by rw [h]
theorem int_eq {b b' : Int} (h : b = b') : Value.int .i64 b = .int .i64 b' := by rw [h]
end
section
variable {Q : Exit → Act → World → Prop} {o : Oper} {a : Act} {w : World} {d : Nat} {g off : Nat} {x y z zz : Operand} {ty : TypeId} {b b1 b2 b3 b4 : Int} {c : Bool} {A : Option Addr} {n k : Nat} {m i j : Int}
/-! Loads, fields, stores, built structs. -/
theorem ld_I {v : Value} (h : w.cell? ⟨g, off, none⟩ = some v) : (Instr.loadAt 3 (.pointer (some ⟨g, off, none⟩))).run Try.prog w = .ok v w := by
  simp [go_sem, h]
theorem op_ldI {v : Value} (ho : o.op = .load 3 x) (hd : o.dst = some d) (hx : a.eval x = .pointer (some ⟨g, off, none⟩)) (h : w.cell? ⟨g, off, none⟩ = some v) : o.wp Try.prog a w (Post a w d (isV v).p) Q := op_load ho hd hx (ld_I h) rfl
theorem ld_B {v : Value} (h : w.cell? ⟨g, off, none⟩ = some v) : (Instr.loadAt 4 (.pointer (some ⟨g, off, none⟩))).run Try.prog w = .ok v w := by
  simp [go_sem, h]
theorem op_ldB {v : Value} (ho : o.op = .load 4 x) (hd : o.dst = some d) (hx : a.eval x = .pointer (some ⟨g, off, none⟩)) (h : w.cell? ⟨g, off, none⟩ = some v) : o.wp Try.prog a w (Post a w d (isV v).p) Q := op_load ho hd hx (ld_B h) rfl
theorem ld_S {v : Value} (h : w.cell? ⟨g, off, none⟩ = some v) : (Instr.loadAt 22 (.pointer (some ⟨g, off, none⟩))).run Try.prog w = .ok v w := by
  simp [go_sem, h]
theorem op_ldS {v : Value} (ho : o.op = .load 22 x) (hd : o.dst = some d) (hx : a.eval x = .pointer (some ⟨g, off, none⟩)) (h : w.cell? ⟨g, off, none⟩ = some v) : o.wp Try.prog a w (Post a w d (isV v).p) Q := op_load ho hd hx (ld_S h) rfl
theorem lds_T {t : TypeId} {p q r : Value} (h : Blk w g t [p, q, r]) : (Instr.loadAt 27 (.pointer (some ⟨g, 0, none⟩))).run Try.prog w = .ok (.agg #[p, q, r]) w := by
  have h0 := h.cell 0
  have h1 := h.cell 1
  have h2 := h.cell 2
  simp at h0 h1 h2
  simp [go_sem, h0, h1, h2]
theorem op_ldT {t : TypeId} {p q r : Value} (ho : o.op = .load 27 x) (hd : o.dst = some d) (hx : a.eval x = .pointer (some ⟨g, 0, none⟩)) (h : Blk w g t [p, q, r]) : o.wp Try.prog a w (Post a w d (isV (.agg #[p, q, r])).p) Q := op_load ho hd hx (lds_T h) rfl
theorem lds_U {t : TypeId} {p q r : Value} (h : Blk w g t [p, q, r]) : (Instr.loadAt 24 (.pointer (some ⟨g, 0, none⟩))).run Try.prog w = .ok (.agg #[p, q, r]) w := by
  have h0 := h.cell 0
  have h1 := h.cell 1
  have h2 := h.cell 2
  simp at h0 h1 h2
  simp [go_sem, h0, h1, h2]
theorem op_ldU {t : TypeId} {p q r : Value} (ho : o.op = .load 24 x) (hd : o.dst = some d) (hx : a.eval x = .pointer (some ⟨g, 0, none⟩)) (h : Blk w g t [p, q, r]) : o.wp Try.prog a w (Post a w d (isV (.agg #[p, q, r])).p) Q := op_load ho hd hx (lds_U h) rfl
theorem lds_M {t : TypeId} {p q r s : Value} (h : Blk w g t [p, q, r, s]) : (Instr.loadAt 31 (.pointer (some ⟨g, 0, none⟩))).run Try.prog w = .ok (.agg #[p, q, r, s]) w := by
  have h0 := h.cell 0
  have h1 := h.cell 1
  have h2 := h.cell 2
  have h3 := h.cell 3
  simp at h0 h1 h2 h3
  simp [go_sem, h0, h1, h2, h3]
theorem op_ldM {t : TypeId} {p q r s : Value} (ho : o.op = .load 31 x) (hd : o.dst = some d) (hx : a.eval x = .pointer (some ⟨g, 0, none⟩)) (h : Blk w g t [p, q, r, s]) : o.wp Try.prog a w (Post a w d (isV (.agg #[p, q, r, s])).p) Q := op_load ho hd hx (lds_M h) rfl
theorem lds_N {t : TypeId} {p q r s : Value} (h : Blk w g t [p, q, r, s]) : (Instr.loadAt 26 (.pointer (some ⟨g, 0, none⟩))).run Try.prog w = .ok (.agg #[p, q, r, s]) w := by
  have h0 := h.cell 0
  have h1 := h.cell 1
  have h2 := h.cell 2
  have h3 := h.cell 3
  simp at h0 h1 h2 h3
  simp [go_sem, h0, h1, h2, h3]
theorem op_ldN {t : TypeId} {p q r s : Value} (ho : o.op = .load 26 x) (hd : o.dst = some d) (hx : a.eval x = .pointer (some ⟨g, 0, none⟩)) (h : Blk w g t [p, q, r, s]) : o.wp Try.prog a w (Post a w d (isV (.agg #[p, q, r, s])).p) Q := op_load ho hd hx (lds_N h) rfl
theorem lds_Z {t : TypeId} {p q : Value} (h : Blk w g t [p, q]) : (Instr.loadAt 84 (.pointer (some ⟨g, 0, none⟩))).run Try.prog w = .ok (.agg #[p, q]) w := by
  have h0 := h.cell 0
  have h1 := h.cell 1
  simp at h0 h1
  simp [go_sem, h0, h1]
theorem op_ldZ {t : TypeId} {p q : Value} (ho : o.op = .load 84 x) (hd : o.dst = some d) (hx : a.eval x = .pointer (some ⟨g, 0, none⟩)) (h : Blk w g t [p, q]) : o.wp Try.prog a w (Post a w d (isV (.agg #[p, q])).p) Q := op_load ho hd hx (lds_Z h) rfl
theorem lds_L {t : TypeId} {p q r s : Value} (h : Blk w g t [p, q, r, s]) : (Instr.loadAt 95 (.pointer (some ⟨g, 0, none⟩))).run Try.prog w = .ok (.agg #[p, q, r, s]) w := by
  have h0 := h.cell 0
  have h1 := h.cell 1
  have h2 := h.cell 2
  have h3 := h.cell 3
  simp at h0 h1 h2 h3
  simp [go_sem, h0, h1, h2, h3]
theorem op_ldL {t : TypeId} {p q r s : Value} (ho : o.op = .load 95 x) (hd : o.dst = some d) (hx : a.eval x = .pointer (some ⟨g, 0, none⟩)) (h : Blk w g t [p, q, r, s]) : o.wp Try.prog a w (Post a w d (isV (.agg #[p, q, r, s])).p) Q := op_load ho hd hx (lds_L h) rfl
theorem op_faT0 (ho : o.op = .fieldAddr 27 x 0) (hx : a.eval x = .pointer (some ⟨g, off, none⟩)) (w : World) : (execOp a.eval o).run Try.prog w = .ok (.value (.pointer (some ⟨g, off + 0, none⟩))) w := by
  unfold execOp
  simp only [ho, hx]
  simp [go_sem]
theorem op_faT1 (ho : o.op = .fieldAddr 27 x 1) (hx : a.eval x = .pointer (some ⟨g, off, none⟩)) (w : World) : (execOp a.eval o).run Try.prog w = .ok (.value (.pointer (some ⟨g, off + 1, none⟩))) w := by
  unfold execOp
  simp only [ho, hx]
  simp [go_sem]
theorem op_faT2 (ho : o.op = .fieldAddr 27 x 2) (hx : a.eval x = .pointer (some ⟨g, off, none⟩)) (w : World) : (execOp a.eval o).run Try.prog w = .ok (.value (.pointer (some ⟨g, off + 2, none⟩))) w := by
  unfold execOp
  simp only [ho, hx]
  simp [go_sem]
theorem op_faU0 (ho : o.op = .fieldAddr 24 x 0) (hx : a.eval x = .pointer (some ⟨g, off, none⟩)) (w : World) : (execOp a.eval o).run Try.prog w = .ok (.value (.pointer (some ⟨g, off + 0, none⟩))) w := by
  unfold execOp
  simp only [ho, hx]
  simp [go_sem]
theorem op_faU1 (ho : o.op = .fieldAddr 24 x 1) (hx : a.eval x = .pointer (some ⟨g, off, none⟩)) (w : World) : (execOp a.eval o).run Try.prog w = .ok (.value (.pointer (some ⟨g, off + 1, none⟩))) w := by
  unfold execOp
  simp only [ho, hx]
  simp [go_sem]
theorem op_faU2 (ho : o.op = .fieldAddr 24 x 2) (hx : a.eval x = .pointer (some ⟨g, off, none⟩)) (w : World) : (execOp a.eval o).run Try.prog w = .ok (.value (.pointer (some ⟨g, off + 2, none⟩))) w := by
  unfold execOp
  simp only [ho, hx]
  simp [go_sem]
theorem op_faM0 (ho : o.op = .fieldAddr 31 x 0) (hx : a.eval x = .pointer (some ⟨g, off, none⟩)) (w : World) : (execOp a.eval o).run Try.prog w = .ok (.value (.pointer (some ⟨g, off + 0, none⟩))) w := by
  unfold execOp
  simp only [ho, hx]
  simp [go_sem]
theorem op_faM1 (ho : o.op = .fieldAddr 31 x 1) (hx : a.eval x = .pointer (some ⟨g, off, none⟩)) (w : World) : (execOp a.eval o).run Try.prog w = .ok (.value (.pointer (some ⟨g, off + 1, none⟩))) w := by
  unfold execOp
  simp only [ho, hx]
  simp [go_sem]
theorem op_faM2 (ho : o.op = .fieldAddr 31 x 2) (hx : a.eval x = .pointer (some ⟨g, off, none⟩)) (w : World) : (execOp a.eval o).run Try.prog w = .ok (.value (.pointer (some ⟨g, off + 2, none⟩))) w := by
  unfold execOp
  simp only [ho, hx]
  simp [go_sem]
theorem op_faM3 (ho : o.op = .fieldAddr 31 x 3) (hx : a.eval x = .pointer (some ⟨g, off, none⟩)) (w : World) : (execOp a.eval o).run Try.prog w = .ok (.value (.pointer (some ⟨g, off + 3, none⟩))) w := by
  unfold execOp
  simp only [ho, hx]
  simp [go_sem]
theorem op_faN0 (ho : o.op = .fieldAddr 26 x 0) (hx : a.eval x = .pointer (some ⟨g, off, none⟩)) (w : World) : (execOp a.eval o).run Try.prog w = .ok (.value (.pointer (some ⟨g, off + 0, none⟩))) w := by
  unfold execOp
  simp only [ho, hx]
  simp [go_sem]
theorem op_faN1 (ho : o.op = .fieldAddr 26 x 1) (hx : a.eval x = .pointer (some ⟨g, off, none⟩)) (w : World) : (execOp a.eval o).run Try.prog w = .ok (.value (.pointer (some ⟨g, off + 1, none⟩))) w := by
  unfold execOp
  simp only [ho, hx]
  simp [go_sem]
theorem op_faN2 (ho : o.op = .fieldAddr 26 x 2) (hx : a.eval x = .pointer (some ⟨g, off, none⟩)) (w : World) : (execOp a.eval o).run Try.prog w = .ok (.value (.pointer (some ⟨g, off + 2, none⟩))) w := by
  unfold execOp
  simp only [ho, hx]
  simp [go_sem]
theorem op_faN3 (ho : o.op = .fieldAddr 26 x 3) (hx : a.eval x = .pointer (some ⟨g, off, none⟩)) (w : World) : (execOp a.eval o).run Try.prog w = .ok (.value (.pointer (some ⟨g, off + 3, none⟩))) w := by
  unfold execOp
  simp only [ho, hx]
  simp [go_sem]
theorem op_faZ0 (ho : o.op = .fieldAddr 84 x 0) (hx : a.eval x = .pointer (some ⟨g, off, none⟩)) (w : World) : (execOp a.eval o).run Try.prog w = .ok (.value (.pointer (some ⟨g, off + 0, none⟩))) w := by
  unfold execOp
  simp only [ho, hx]
  simp [go_sem]
theorem op_faZ1 (ho : o.op = .fieldAddr 84 x 1) (hx : a.eval x = .pointer (some ⟨g, off, none⟩)) (w : World) : (execOp a.eval o).run Try.prog w = .ok (.value (.pointer (some ⟨g, off + 1, none⟩))) w := by
  unfold execOp
  simp only [ho, hx]
  simp [go_sem]
theorem op_faL0 (ho : o.op = .fieldAddr 95 x 0) (hx : a.eval x = .pointer (some ⟨g, off, none⟩)) (w : World) : (execOp a.eval o).run Try.prog w = .ok (.value (.pointer (some ⟨g, off + 0, none⟩))) w := by
  unfold execOp
  simp only [ho, hx]
  simp [go_sem]
theorem op_faL1 (ho : o.op = .fieldAddr 95 x 1) (hx : a.eval x = .pointer (some ⟨g, off, none⟩)) (w : World) : (execOp a.eval o).run Try.prog w = .ok (.value (.pointer (some ⟨g, off + 1, none⟩))) w := by
  unfold execOp
  simp only [ho, hx]
  simp [go_sem]
theorem op_faL2 (ho : o.op = .fieldAddr 95 x 2) (hx : a.eval x = .pointer (some ⟨g, off, none⟩)) (w : World) : (execOp a.eval o).run Try.prog w = .ok (.value (.pointer (some ⟨g, off + 2, none⟩))) w := by
  unfold execOp
  simp only [ho, hx]
  simp [go_sem]
theorem op_faL3 (ho : o.op = .fieldAddr 95 x 3) (hx : a.eval x = .pointer (some ⟨g, off, none⟩)) (w : World) : (execOp a.eval o).run Try.prog w = .ok (.value (.pointer (some ⟨g, off + 3, none⟩))) w := by
  unfold execOp
  simp only [ho, hx]
  simp [go_sem]
/-! Whole stores. -/
theorem sto_T {t : TypeId} {p q r : Value} (h : Blk w g t [p, q, r]) : (Instr.storeAt 27 (.pointer (some ⟨g, 0, none⟩)) (.agg #[.int .i64 b1, .int .i64 b2, .slice A n k])).run Try.prog w = .ok () (putL w g 0 [.int .i64 b1, .int .i64 b2, .slice A n k]) := by
  have h0 := h.cell 0
  have h1 := h.cell 1
  have h2 := h.cell 2
  simp at h0 h1 h2
  have f0 := h.frozen 0
  have f1 := h.frozen 1
  have f2 := h.frozen 2
  have f3 := h.frozen 3
  simp only [putL]
  simp [go_sem, h0, h1, h2, f0, f1, f2, f3]
theorem sto_U {t : TypeId} {p q r : Value} (h : Blk w g t [p, q, r]) : (Instr.storeAt 24 (.pointer (some ⟨g, 0, none⟩)) (.agg #[.int .i64 b1, .int .i64 b2, .slice A n k])).run Try.prog w = .ok () (putL w g 0 [.int .i64 b1, .int .i64 b2, .slice A n k]) := by
  have h0 := h.cell 0
  have h1 := h.cell 1
  have h2 := h.cell 2
  simp at h0 h1 h2
  have f0 := h.frozen 0
  have f1 := h.frozen 1
  have f2 := h.frozen 2
  have f3 := h.frozen 3
  simp only [putL]
  simp [go_sem, h0, h1, h2, f0, f1, f2, f3]
theorem sto_M {t : TypeId} {p q r s : Value} (h : Blk w g t [p, q, r, s]) : (Instr.storeAt 31 (.pointer (some ⟨g, 0, none⟩)) (.agg #[.int .i64 b1, .int .i64 b2, .int .i64 b3, .bool c])).run Try.prog w = .ok () (putL w g 0 [.int .i64 b1, .int .i64 b2, .int .i64 b3, .bool c]) := by
  have h0 := h.cell 0
  have h1 := h.cell 1
  have h2 := h.cell 2
  have h3 := h.cell 3
  simp at h0 h1 h2 h3
  have f0 := h.frozen 0
  have f1 := h.frozen 1
  have f2 := h.frozen 2
  have f3 := h.frozen 3
  simp only [putL]
  simp [go_sem, h0, h1, h2, h3, f0, f1, f2, f3]
theorem sto_N {t : TypeId} {p q r s : Value} (h : Blk w g t [p, q, r, s]) : (Instr.storeAt 26 (.pointer (some ⟨g, 0, none⟩)) (.agg #[.int .i64 b1, .int .i64 b2, .int .i64 b3, .bool c])).run Try.prog w = .ok () (putL w g 0 [.int .i64 b1, .int .i64 b2, .int .i64 b3, .bool c]) := by
  have h0 := h.cell 0
  have h1 := h.cell 1
  have h2 := h.cell 2
  have h3 := h.cell 3
  simp at h0 h1 h2 h3
  have f0 := h.frozen 0
  have f1 := h.frozen 1
  have f2 := h.frozen 2
  have f3 := h.frozen 3
  simp only [putL]
  simp [go_sem, h0, h1, h2, h3, f0, f1, f2, f3]
theorem sto_Z {t : TypeId} {p q : Value} (h : Blk w g t [p, q]) : (Instr.storeAt 84 (.pointer (some ⟨g, 0, none⟩)) (.agg #[.int .i64 b1, .int .i64 b2])).run Try.prog w = .ok () (putL w g 0 [.int .i64 b1, .int .i64 b2]) := by
  have h0 := h.cell 0
  have h1 := h.cell 1
  simp at h0 h1
  have f0 := h.frozen 0
  have f1 := h.frozen 1
  have f2 := h.frozen 2
  have f3 := h.frozen 3
  simp only [putL]
  simp [go_sem, h0, h1, f0, f1, f2, f3]
theorem sto_L {t : TypeId} {p q r s : Value} (h : Blk w g t [p, q, r, s]) : (Instr.storeAt 95 (.pointer (some ⟨g, 0, none⟩)) (.agg #[.int .i64 b1, .int .i64 b2, .int .i64 b3, .int .i64 b4])).run Try.prog w = .ok () (putL w g 0 [.int .i64 b1, .int .i64 b2, .int .i64 b3, .int .i64 b4]) := by
  have h0 := h.cell 0
  have h1 := h.cell 1
  have h2 := h.cell 2
  have h3 := h.cell 3
  simp at h0 h1 h2 h3
  have f0 := h.frozen 0
  have f1 := h.frozen 1
  have f2 := h.frozen 2
  have f3 := h.frozen 3
  simp only [putL]
  simp [go_sem, h0, h1, h2, h3, f0, f1, f2, f3]
/-- One cell. -/
theorem sto_I {t : TypeId} {us : List Value} {v : Value} (h : Blk w g t us) (hv : us[off]? = some v) : (Instr.storeAt 3 (.pointer (some ⟨g, off, none⟩)) (.int .i64 b)).run Try.prog w = .ok () (putL w g off [.int .i64 b]) := by
  have h0 := (h.cell off).trans hv
  have f0 := h.frozen off
  simp only [putL]
  simp [go_sem, h0, f0]
theorem op_buT (ho : o.op = .build 27 #[(0, x), (1, y), (2, z)]) (h0 : a.eval x = .int .i64 b1) (h1 : a.eval y = .int .i64 b2) (h2 : a.eval z = .slice A n k) (w : World) : (execOp a.eval o).run Try.prog w = .ok (.value (.agg #[.int .i64 b1, .int .i64 b2, .slice A n k])) w := by
  generalize a.eval = ev at h0 h1 h2 ⊢
  unfold execOp
  simp only [ho]
  simp [go_sem, h0, h1, h2]
theorem op_buU (ho : o.op = .build 24 #[(0, x), (1, y), (2, z)]) (h0 : a.eval x = .int .i64 b1) (h1 : a.eval y = .int .i64 b2) (h2 : a.eval z = .slice A n k) (w : World) : (execOp a.eval o).run Try.prog w = .ok (.value (.agg #[.int .i64 b1, .int .i64 b2, .slice A n k])) w := by
  generalize a.eval = ev at h0 h1 h2 ⊢
  unfold execOp
  simp only [ho]
  simp [go_sem, h0, h1, h2]
theorem op_buZ (ho : o.op = .build 84 #[(0, x), (1, y)]) (h0 : a.eval x = .int .i64 b1) (h1 : a.eval y = .int .i64 b2) (w : World) : (execOp a.eval o).run Try.prog w = .ok (.value (.agg #[.int .i64 b1, .int .i64 b2])) w := by
  generalize a.eval = ev at h0 h1 ⊢
  unfold execOp
  simp only [ho]
  simp [go_sem, h0, h1]
theorem op_buM (ho : o.op = .build 31 #[(0, x), (1, y), (2, z), (3, zz)]) (h0 : a.eval x = .int .i64 b1) (h1 : a.eval y = .int .i64 b2) (h2 : a.eval z = .int .i64 b3) (h3 : a.eval zz = .bool c) (w : World) : (execOp a.eval o).run Try.prog w = .ok (.value (.agg #[.int .i64 b1, .int .i64 b2, .int .i64 b3, .bool c])) w := by
  generalize a.eval = ev at h0 h1 h2 h3 ⊢
  unfold execOp
  simp only [ho]
  simp [go_sem, h0, h1, h2, h3]
theorem op_buN (ho : o.op = .build 26 #[(0, x), (1, y), (2, z), (3, zz)]) (h0 : a.eval x = .int .i64 b1) (h1 : a.eval y = .int .i64 b2) (h2 : a.eval z = .int .i64 b3) (h3 : a.eval zz = .bool c) (w : World) : (execOp a.eval o).run Try.prog w = .ok (.value (.agg #[.int .i64 b1, .int .i64 b2, .int .i64 b3, .bool c])) w := by
  generalize a.eval = ev at h0 h1 h2 h3 ⊢
  unfold execOp
  simp only [ho]
  simp [go_sem, h0, h1, h2, h3]
theorem op_buL (ho : o.op = .build 95 #[(0, x), (1, y), (2, z), (3, zz)]) (h0 : a.eval x = .int .i64 b1) (h1 : a.eval y = .int .i64 b2) (h2 : a.eval z = .int .i64 b3) (h3 : a.eval zz = .int .i64 b4) (w : World) : (execOp a.eval o).run Try.prog w = .ok (.value (.agg #[.int .i64 b1, .int .i64 b2, .int .i64 b3, .int .i64 b4])) w := by
  generalize a.eval = ev at h0 h1 h2 h3 ⊢
  unfold execOp
  simp only [ho]
  simp [go_sem, h0, h1, h2, h3]
theorem op_b0T (ho : o.op = .build 27 #[]) (w : World) : (execOp a.eval o).run Try.prog w = .ok (.value (.agg #[.int .i64 0, .int .i64 0, .slice none 0 0])) w := by
  unfold execOp
  simp only [ho]
  simp [go_sem]
theorem op_b0U (ho : o.op = .build 24 #[]) (w : World) : (execOp a.eval o).run Try.prog w = .ok (.value (.agg #[.int .i64 0, .int .i64 0, .slice none 0 0])) w := by
  unfold execOp
  simp only [ho]
  simp [go_sem]
theorem op_b0M (ho : o.op = .build 31 #[]) (w : World) : (execOp a.eval o).run Try.prog w = .ok (.value (.agg #[.int .i64 0, .int .i64 0, .int .i64 0, .bool false])) w := by
  unfold execOp
  simp only [ho]
  simp [go_sem]
theorem op_b0N (ho : o.op = .build 26 #[]) (w : World) : (execOp a.eval o).run Try.prog w = .ok (.value (.agg #[.int .i64 0, .int .i64 0, .int .i64 0, .bool false])) w := by
  unfold execOp
  simp only [ho]
  simp [go_sem]
theorem alloc_T (w : World) : (Instr.alloc 27 true (.tuple #[])).run Try.prog w = .ok (.pointer (some ⟨w.heap.size, 0, none⟩)) (w.alloc (.cells [.int .i64 0, .int .i64 0, .slice none 0 0].toArray 27)) := by
  simp [go_sem]
theorem alloc_U (w : World) : (Instr.alloc 24 true (.tuple #[])).run Try.prog w = .ok (.pointer (some ⟨w.heap.size, 0, none⟩)) (w.alloc (.cells [.int .i64 0, .int .i64 0, .slice none 0 0].toArray 24)) := by
  simp [go_sem]
theorem alloc_M (w : World) : (Instr.alloc 31 true (.tuple #[])).run Try.prog w = .ok (.pointer (some ⟨w.heap.size, 0, none⟩)) (w.alloc (.cells [.int .i64 0, .int .i64 0, .int .i64 0, .bool false].toArray 31)) := by
  simp [go_sem]
theorem alloc_N (w : World) : (Instr.alloc 26 true (.tuple #[])).run Try.prog w = .ok (.pointer (some ⟨w.heap.size, 0, none⟩)) (w.alloc (.cells [.int .i64 0, .int .i64 0, .int .i64 0, .bool false].toArray 26)) := by
  simp [go_sem]
theorem alloc_Z (w : World) : (Instr.alloc 84 true (.tuple #[])).run Try.prog w = .ok (.pointer (some ⟨w.heap.size, 0, none⟩)) (w.alloc (.cells [.int .i64 0, .int .i64 0].toArray 84)) := by
  simp [go_sem]
theorem alloc_L (w : World) : (Instr.alloc 95 true (.tuple #[])).run Try.prog w = .ok (.pointer (some ⟨w.heap.size, 0, none⟩)) (w.alloc (.cells [.int .i64 0, .int .i64 0, .int .i64 0, .int .i64 0].toArray 95)) := by
  simp [go_sem]
/-! Reckoning. -/
def Fit (i : Int) : Prop := -9223372036854775808 ≤ i ∧ i ≤ 9223372036854775807
theorem wrap_fit (h : Fit i) : IntKind.i64.wrap i = i := by
  unfold Fit at h
  unfold IntKind.wrap
  simp [IntKind.signed, IntKind.bits]
  omega
theorem op_add (hf : Fit (i + j)) (ho : o.op = .binOp .add 3 x y ty) (hx : a.eval x = .int .i64 i) (hy : a.eval y = .int .i64 j) (w : World) : (execOp a.eval o).run Try.prog w = .ok (.value (.int .i64 (i + j))) w := by
  have hw := wrap_fit hf
  generalize a.eval = ev at hx hy ⊢
  unfold execOp
  simp only [ho, hx, hy]
  simp [go_sem, hw]
theorem op_sub (hf : Fit (i - j)) (ho : o.op = .binOp .sub 3 x y ty) (hx : a.eval x = .int .i64 i) (hy : a.eval y = .int .i64 j) (w : World) : (execOp a.eval o).run Try.prog w = .ok (.value (.int .i64 (i - j))) w := by
  have hw := wrap_fit hf
  generalize a.eval = ev at hx hy ⊢
  unfold execOp
  simp only [ho, hx, hy]
  simp [go_sem, hw]
theorem op_mul (hf : Fit (i * j)) (ho : o.op = .binOp .mul 3 x y ty) (hx : a.eval x = .int .i64 i) (hy : a.eval y = .int .i64 j) (w : World) : (execOp a.eval o).run Try.prog w = .ok (.value (.int .i64 (i * j))) w := by
  have hw := wrap_fit hf
  generalize a.eval = ev at hx hy ⊢
  unfold execOp
  simp only [ho, hx, hy]
  simp [go_sem, hw]
end
end Go.Proofs.Ytddbmckbankmeaa
