/- Part 10 of the texts behind this claim. -/
import Derived.BigCall
import Derived.Test.YtcjcpfafalkceaaFq7
import Derived.Test.YtcjcpfafalkceaaFq9
set_option linter.unusedVariables false
set_option linter.unusedSimpArgs false
namespace Go.Proofs.Ytcjcpfafalkceaa
open Go.RowKit
structure SP where
  p : Value → World → Prop
  st : ∀ v w w', p v w → Below w.heap.size w w' → p v w'
def SP.any : SP := ⟨fun _ _ => True, fun _ _ _ _ _ => trivial⟩
def isV (u : Value) : SP := ⟨fun v _ => v = u, fun _ _ _ h _ => h⟩
def isZ (z : Int) : SP := ⟨fun v w => ∃ A c, v = .agg #[.bool (decide (z < 0)), .slice A (ln z.natAbs) c] ∧ NN w A c z.natAbs, fun v w w' ⟨A, c, h, hn⟩ hb => ⟨A, c, h, hn.to hb⟩⟩
def isN (n : Nat) : SP := ⟨fun v w => ∃ A c, v = .slice A (ln n) c ∧ NN w A c n, fun v w w' ⟨A, c, h, hn⟩ hb => ⟨A, c, h, hn.to hb⟩⟩
def isZZ (q r : Int) : SP := ⟨fun v w => ∃ A c A' c', v = .tuple #[.agg #[.bool (decide (q < 0)), .slice A (ln q.natAbs) c], .agg #[.bool (decide (r < 0)), .slice A' (ln r.natAbs) c']] ∧ NN w A c q.natAbs ∧ NN w A' c' r.natAbs,
  fun v w w' ⟨A, c, A', c', h, h1, h2⟩ hb => ⟨A, c, A', c', h, h1.to hb, h2.to hb⟩⟩
section
variable {P : Program} {Q : Exit → Act → World → Prop} {o : Oper} {a : Act} {w : World} {d : Nat} {R : Value → World → Prop}
theorem op_call {f : Nat} {xs : Array Operand} {ts : Array TypeId} {vs : Array Value} (ho : o.op = .call { callee := .value (.func f), args := xs, argTypes := ts }) (hd : o.dst = some d)
    (hcf : ∀ args w, (callFunc f args).run P w = .ok (.enter f args) w) (hx : xs.map a.eval = vs) (hc : Calls P f vs w (fun e w' => ∃ v, e = .returned v ∧ Below w.heap.size w w' ∧ R v w')) : o.wp P a w (Post a w d R) Q := by
  obtain ⟨dst, op, type, pos, after, guard⟩ := o
  simp only at ho hd
  subst ho hd hx
  unfold Oper.wp
  rw [execOp_call_go, hcf]
  simp only [Oper.upon, Array.empty_append, Array.append_empty]
  refine hc.mono ?_
  rintro e w' ⟨v, rfl, hb, hr⟩
  exact ⟨v, rfl, hb, hr⟩
theorem op_run {v : Value} (hd : o.dst = some d) (hr : (execOp a.eval o).run P w = .ok (.value v) w) (h : R v w) : o.wp P a w (Post a w d R) Q := by
  unfold Oper.wp
  rw [hr]
  show Post a w d R (a.put o.dst v) w
  rw [hd]
  exact ⟨v, rfl, Below.refl _ _, h⟩
theorem op_load {T : TypeId} {x : Operand} {p v : Value} (ho : o.op = .load T x) (hd : o.dst = some d) (hx : a.eval x = p) (hl : (Instr.loadAt T p).run P w = .ok v w) (h : R v w) : o.wp P a w (Post a w d R) Q := by
  refine op_run hd ?_ h
  unfold execOp
  simp only [ho, hx, Sem.run_bind, hl, Result.andThen_ok, Sem.run_pure]
theorem op_move {x : Operand} {v : Value} (ho : o.op = .move x) (hx : a.eval x = v) (w : World) : (execOp a.eval o).run P w = .ok (.value v) w := by
  unfold execOp
  simp only [ho, hx, Sem.run_pure]
theorem op_extract {x : Operand} {vs : Array Value} {i : Nat} {v : Value} (ho : o.op = .extract x i) (hx : a.eval x = .tuple vs) (hv : vs[i]? = some v) (w : World) : (execOp a.eval o).run P w = .ok (.value v) w := by
  unfold execOp
  simp only [ho, hx, Instr.extract, hv, Sem.run_bind, Sem.run_pure, Result.andThen_ok]
end
section
variable {w : World} {g : Nat} {x0 x1 : Value}
theorem alloc_api (w : World) : (Instr.alloc 24 true (.tuple #[])).run Try.prog w = .ok (.pointer (some ⟨w.heap.size, 0, none⟩)) (w.alloc (.cells [.bool false, .slice none 0 0].toArray 24)) := by
  simp [go_sem]
theorem alloc_whole (w : World) : (Instr.alloc 70 true (.tuple #[])).run Try.prog w = .ok (.pointer (some ⟨w.heap.size, 0, none⟩)) (w.alloc (.cells [.bool false, .slice none 0 0].toArray 70)) := by
  simp [go_sem]
theorem alloc_Z (w : World) : (Instr.alloc 38 true (.tuple #[])).run Try.prog w = .ok (.pointer (some ⟨w.heap.size, 0, none⟩)) (w.alloc (.cells [.bool false, .slice none 0 0].toArray 38)) := by
  simp [go_sem]
end
theorem mixed_ : Try.prog.follows .mixedOrders = true := by kernel_rfl
def vp (Vs : List SP) (i : Nat) : Value → World → Prop := (Vs.getD i SP.any).p
section
variable {Q : Exit → Act → World → Prop} {id : Nat} {l : List Oper} {a0 : Act} {w0 : World}
theorem wp_region_vs (n1 : Nat) (ds E AL : List Nat) (T : TypeId) (z : List Value) (Vs : List SP)
    (hns : Region.noSelect l.toArray = true) (hB : phaseB l.toArray n1 E = true) (hF : freeB l.toArray E = true) (hD : VarB l n1 ds E AL T a0.tmps.size = true)
    (hz : ∀ w : World, (Instr.alloc T true (.tuple #[])).run Try.prog w = .ok (.pointer (some ⟨w.heap.size, 0, none⟩)) (w.alloc (.cells z.toArray T)))
    (hQ : ∀ d v c a w, Q (.panic c) (a.put d v) w → Q (.panic c) a w)
    (hop : ∀ i, i < n1 → AL.contains i = false → ∀ a w, Below w0.heap.size w0 w → (∀ t, ds.contains t = false → a.eval (.tmp t) = a0.eval (.tmp t)) → Deps l ds AL (vp Vs) i a w →
      match l[i]? with | none => True | some o => if E.contains i then ∃ v, (∀ w, (execOp a.eval o).run Try.prog w = .ok (.value v) w) ∧ vp Vs i v w else o.wp Try.prog a w (Post a w (ds.getD i 0) (vp Vs i)) Q)
    (hend : ∀ (vs : Nat → Value) (w : World), Below w0.heap.size w0 w → (∀ i, i < n1 → AL.contains i = false → vp Vs i (vs (ds.getD i 0)) w) →
      (∀ i, AL.contains i = true → ∃ g, vs (ds.getD i 0) = .pointer (some ⟨g, 0, none⟩) ∧ w0.heap.size ≤ g ∧ Blk w g T z) → (∀ i j, AL.contains i = true → AL.contains j = true → i ≠ j → vs (ds.getD i 0) ≠ vs (ds.getD j 0)) → wpList Try.prog l.toArray Q (l.drop n1) (putAll a0 ds vs) w) :
    (Code.region id l.toArray true).wp Try.prog Q a0 w0 := by
  refine wp_region_vars n1 ds E AL T z (vp Vs) (fun _ _ => True) mixed_ hns hB hF hD (fun _ _ _ _ _ _ => trivial) (fun _ _ _ _ => trivial) hz hQ (fun i v w w' h hb => (Vs.getD i SP.any).st v w w' h hb) ?_ (fun vs w h1 h2 h3 h4 => wpListS_plain _ _ _ _ (fun _ _ _ => trivial) (hend vs w h1 h2 h3 h4))
  intro i hi hA a w hb hs hd
  have h := hop i hi hA a w hb hs hd
  cases ho : l[i]? with
  | none => trivial
  | some o =>
    rw [ho] at h
    simp only at h ⊢
    split at h
    · next h1 =>
      rw [if_pos h1]
      obtain ⟨v, h2, h3⟩ := h
      exact ⟨v, fun w _ => h2 w, h3⟩
    · next h1 =>
      rw [if_neg h1]
      exact h
end
section
variable {w X : World} {t t' : TypeId} {x0 x1 u v : Value} {g h n : Nat} {cs : List Value} {A : Option Addr} {c m : Nat}
theorem blk_put2 (hb : Blk X g t [x0, x1]) : Blk ((X.setCell ⟨g, 0, none⟩ u).setCell ⟨g, 1, none⟩ v) g t [u, v] := (hb.set_ 0 u).set_ 1 v
theorem blk_far2 (hb : Blk X g t cs) (hne : g ≠ h) : Blk ((X.setCell ⟨h, 0, none⟩ u).setCell ⟨h, 1, none⟩ v) g t cs := (hb.far (p := ⟨h, 0, none⟩) hne u).far (p := ⟨h, 1, none⟩) hne v
theorem nn_put2 {b : Bool} {a : Option Addr} {l k : Nat} (hn : NN X A c m) (hb : Blk X g t [.bool b, .slice a l k]) : NN ((X.setCell ⟨g, 0, none⟩ u).setCell ⟨g, 1, none⟩ v) A c m :=
  (hn.set_ hb.c0 (by intro t; simp) u).set_ (hb.set_ 0 u).c1 (by intro t; simp) v
end
theorem ptr_ne {g h : Nat} (hne : Value.pointer (some ⟨g, 0, none⟩) ≠ Value.pointer (some ⟨h, 0, none⟩)) : g ≠ h := fun e => hne (by rw [e])
end Go.Proofs.Ytcjcpfafalkceaa
