/- The operations of such a region, each by a lemma. -/
import Derived.Test.YtddbmckbankmeaaPh
import Derived.BigCall
set_option linter.unusedVariables false
set_option linter.unusedSimpArgs false
namespace Go.Proofs.Ytddbmckbankmeaa
open Go.RowKit
/-- A fact about a slot's value that lasts while old memory is as it was. -/
structure SP where
  p : Value → World → Prop
  st : ∀ v w w', p v w → Below w.heap.size w w' → p v w'
def SP.any : SP := ⟨fun _ _ => True, fun _ _ _ _ _ => trivial⟩
def isV (u : Value) : SP := ⟨fun v _ => v = u, fun _ _ _ h _ => h⟩
section
variable {P : Program} {Q : Exit → Act → World → Prop} {o : Oper} {a : Act} {w : World} {d : Nat} {R : Value → World → Prop}
theorem op_call {f : Nat} {xs : Array Operand} {ts : Array TypeId} {vs : Array Value} (ho : o.op = .call { callee := .value (.func f), args := xs, argTypes := ts }) (hd : o.dst = some d)
    (hcf : ∀ args w, (callFunc f args).run P w = .ok (.enter f args) w) (hx : xs.map a.eval = vs) (hc : Calls P f vs w (fun e w' => ∃ v, e = .returned v ∧ Below w.heap.size w w' ∧ R v w')) : o.wp P a w (Post a w d R) Q := by
  obtain ⟨dst, op, type, pos, after, guard⟩ := o
  simp only at ho hd
  subst ho hd hx
  unfold Oper.wp
  rw [execOp_call_go, hcf]
  simp only [Oper.upon, Array.empty_append, Array.append_empty]
  refine hc.mono ?_
  rintro e w' ⟨v, rfl, hb, hr⟩
  exact ⟨v, rfl, hb, hr⟩
theorem op_run {v : Value} (hd : o.dst = some d) (hr : (execOp a.eval o).run P w = .ok (.value v) w) (h : R v w) : o.wp P a w (Post a w d R) Q := by
  unfold Oper.wp
  rw [hr]
  show Post a w d R (a.put o.dst v) w
  rw [hd]
  exact ⟨v, rfl, Below.refl _ _, h⟩
theorem op_load {T : TypeId} {x : Operand} {p v : Value} (ho : o.op = .load T x) (hd : o.dst = some d) (hx : a.eval x = p) (hl : (Instr.loadAt T p).run P w = .ok v w) (h : R v w) : o.wp P a w (Post a w d R) Q := by
  refine op_run hd ?_ h
  unfold execOp
  simp only [ho, hx, Sem.run_bind, hl, Result.andThen_ok, Sem.run_pure]
theorem op_loadY {T : TypeId} {x : Operand} {p v : Value} {C : World → Prop} (ho : o.op = .load T x) (hx : a.eval x = p) (hl : ∀ w, C w → (Instr.loadAt T p).run P w = .ok v w) (w : World) (hw : C w) : (execOp a.eval o).run P w = .ok (.value v) w := by
  unfold execOp
  simp only [ho, hx, Sem.run_bind, hl w hw, Result.andThen_ok, Sem.run_pure]
theorem op_move {x : Operand} {v : Value} (ho : o.op = .move x) (hx : a.eval x = v) (w : World) : (execOp a.eval o).run P w = .ok (.value v) w := by
  unfold execOp
  simp only [ho, hx, Sem.run_pure]
theorem op_extract {x : Operand} {vs : Array Value} {i : Nat} {v : Value} (ho : o.op = .extract x i) (hx : a.eval x = .tuple vs) (hv : vs[i]? = some v) (w : World) : (execOp a.eval o).run P w = .ok (.value v) w := by
  unfold execOp
  simp only [ho, hx, Instr.extract, hv, Sem.run_bind, Sem.run_pure, Result.andThen_ok]
end
/-- Two cells of a block. -/
def At2 (g : Nat) (x0 x1 : Value) (w : World) : Prop := w.cell? ⟨g, 0, none⟩ = some x0 ∧ w.cell? ⟨g, 1, none⟩ = some x1
theorem Blk.at2 {w : World} {g : Nat} {t : TypeId} {x0 x1 : Value} (h : Blk w g t [x0, x1]) : At2 g x0 x1 w := ⟨h.cell 0, h.cell 1⟩
theorem mixed_ : Try.prog.follows .mixedOrders = true := by kernel_rfl
def vp (Vs : List SP) (i : Nat) : Value → World → Prop := (Vs.getD i SP.any).p
def cond (El : List Nat) (C : Nat → World → Prop) (i : Nat) (w : World) : Prop := El.contains i = true → C i w
def waitB (ops : Array Oper) (E El : List Nat) : Bool := E.all (fun i => (edgesOf ops i).all (fun j => !El.contains j))
section
variable {Q : Exit → Act → World → Prop} {id : Nat} {l : List Oper} {a0 : Act} {w0 : World}
/-- The law over the pinned program: Ep pure operations, El loads that may come late, AL new variables. -/
theorem wp_region_vl (n1 : Nat) (ds Ep El AL : List Nat) (T : TypeId) (z : List Value) (Vs : List SP) (C : Nat → World → Prop)
    (hns : Region.noSelect l.toArray = true) (hB : phaseB l.toArray n1 (Ep ++ El) = true) (hF : freeB l.toArray (Ep ++ El) = true) (hD : VarB l n1 ds (Ep ++ El) AL T a0.tmps.size = true)
    (hwt : waitB l.toArray (Ep ++ El) El = true) (hC0 : ∀ i ∈ El, ∀ w, Below w0.heap.size w0 w → C i w)
    (hz : ∀ w : World, (Instr.alloc T true (.tuple #[])).run Try.prog w = .ok (.pointer (some ⟨w.heap.size, 0, none⟩)) (w.alloc (.cells z.toArray T)))
    (hQ : ∀ d v c a w, Q (.panic c) (a.put d v) w → Q (.panic c) a w)
    (hop : ∀ i, i < n1 → AL.contains i = false → ∀ a w, Below w0.heap.size w0 w → (∀ t, ds.contains t = false → a.eval (.tmp t) = a0.eval (.tmp t)) → Deps l ds AL (vp Vs) i a w →
      match l[i]? with | none => True | some o => if Ep.contains i then ∃ v, (∀ w, (execOp a.eval o).run Try.prog w = .ok (.value v) w) ∧ vp Vs i v w else if El.contains i then ∃ v, (∀ w, C i w → (execOp a.eval o).run Try.prog w = .ok (.value v) w) ∧ vp Vs i v w else o.wp Try.prog a w (Post a w (ds.getD i 0) (vp Vs i)) Q)
    (hend : ∀ (vs : Nat → Value) (w : World), Below w0.heap.size w0 w → (∀ i, i < n1 → AL.contains i = false → vp Vs i (vs (ds.getD i 0)) w) →
      (∀ i, AL.contains i = true → ∃ g, vs (ds.getD i 0) = .pointer (some ⟨g, 0, none⟩) ∧ w0.heap.size ≤ g ∧ Blk w g T z) → (∀ i j, AL.contains i = true → AL.contains j = true → i ≠ j → vs (ds.getD i 0) ≠ vs (ds.getD j 0)) → wpListS Try.prog l.toArray Q (Ep ++ El) (cond El C) n1 (l.drop n1) (putAll a0 ds vs) w) :
    (Code.region id l.toArray true).wp Try.prog Q a0 w0 := by
  refine wp_region_vars n1 ds (Ep ++ El) AL T z (vp Vs) (cond El C) mixed_ hns hB hF hD ?_ ?_ hz hQ (fun i v w w' h hb => (Vs.getD i SP.any).st v w w' h hb) ?_ hend
  · intro i hi j _ hij w hc
    unfold waitB at hwt
    rw [List.all_eq_true] at hwt
    have h1 := hwt i hi
    rw [List.all_eq_true] at h1
    have h2 := h1 j hij
    rw [hc] at h2
    cases h2
  · intro i hi w hb hc
    exact hC0 i (by simpa using hc) w hb
  · intro i hi hA a w hb hs hd
    have h := hop i hi hA a w hb hs hd
    cases ho : l[i]? with
    | none => trivial
    | some o =>
      rw [ho] at h
      simp only at h ⊢
      by_cases h1 : Ep.contains i = true
      · rw [if_pos h1] at h
        have h1' : i ∈ Ep := by simpa using h1
        rw [if_pos (by simp [h1'])]
        obtain ⟨v, h2, h3⟩ := h
        exact ⟨v, fun w _ => h2 w, h3⟩
      · rw [if_neg h1] at h
        by_cases h4 : El.contains i = true
        · rw [if_pos h4] at h
          have h4' : i ∈ El := by simpa using h4
          rw [if_pos (by simp [h4'])]
          obtain ⟨v, h2, h3⟩ := h
          exact ⟨v, fun w hc => h2 w (hc h4), h3⟩
        · rw [if_neg h4] at h
          have h1' : i ∉ Ep := by simpa using h1
          have h4' : i ∉ El := by simpa using h4
          rw [if_neg (by simp [h1', h4'])]
          exact h
theorem SK_mk {ops : Array Oper} {E : List Nat} {C : Nat → World → Prop} {k : Nat} {w : World} (S : List Nat) (h : lateAt ops E k = S) (hs : ∀ i ∈ S, C i w) : SK ops E C k w := by
  unfold SK
  rw [h]
  exact hs
theorem wpListS_done {ops : Array Oper} {E : List Nat} {C : Nat → World → Prop} {k : Nat} {rest : List Oper} {a : Act} {w : World} (h : lateAt ops E (k + 1) = []) (hw : wpList Try.prog ops Q rest a w) : wpListS Try.prog ops Q E C k rest a w :=
  wpListS_plain _ _ _ _ (by rw [h]; intro i hi; cases hi) hw
theorem wp_region_vs (n1 : Nat) (ds E AL : List Nat) (T : TypeId) (z : List Value) (Vs : List SP)
    (hns : Region.noSelect l.toArray = true) (hB : phaseB l.toArray n1 E = true) (hF : freeB l.toArray E = true) (hD : VarB l n1 ds E AL T a0.tmps.size = true)
    (hz : ∀ w : World, (Instr.alloc T true (.tuple #[])).run Try.prog w = .ok (.pointer (some ⟨w.heap.size, 0, none⟩)) (w.alloc (.cells z.toArray T)))
    (hQ : ∀ d v c a w, Q (.panic c) (a.put d v) w → Q (.panic c) a w)
    (hop : ∀ i, i < n1 → AL.contains i = false → ∀ a w, Below w0.heap.size w0 w → (∀ t, ds.contains t = false → a.eval (.tmp t) = a0.eval (.tmp t)) → Deps l ds AL (vp Vs) i a w →
      match l[i]? with | none => True | some o => if E.contains i then ∃ v, (∀ w, (execOp a.eval o).run Try.prog w = .ok (.value v) w) ∧ vp Vs i v w else o.wp Try.prog a w (Post a w (ds.getD i 0) (vp Vs i)) Q)
    (hend : ∀ (vs : Nat → Value) (w : World), Below w0.heap.size w0 w → (∀ i, i < n1 → AL.contains i = false → vp Vs i (vs (ds.getD i 0)) w) →
      (∀ i, AL.contains i = true → ∃ g, vs (ds.getD i 0) = .pointer (some ⟨g, 0, none⟩) ∧ w0.heap.size ≤ g ∧ Blk w g T z) → (∀ i j, AL.contains i = true → AL.contains j = true → i ≠ j → vs (ds.getD i 0) ≠ vs (ds.getD j 0)) → wpList Try.prog l.toArray Q (l.drop n1) (putAll a0 ds vs) w) :
    (Code.region id l.toArray true).wp Try.prog Q a0 w0 := by
  refine wp_region_vars n1 ds E AL T z (vp Vs) (fun _ _ => True) mixed_ hns hB hF hD (fun _ _ _ _ _ _ => trivial) (fun _ _ _ _ => trivial) hz hQ (fun i v w w' h hb => (Vs.getD i SP.any).st v w w' h hb) ?_ (fun vs w h1 h2 h3 h4 => wpListS_plain _ _ _ _ (fun _ _ _ => trivial) (hend vs w h1 h2 h3 h4))
  intro i hi hA a w hb hs hd
  have h := hop i hi hA a w hb hs hd
  cases ho : l[i]? with
  | none => trivial
  | some o =>
    rw [ho] at h
    simp only at h ⊢
    split at h
    · next h1 =>
      rw [if_pos h1]
      obtain ⟨v, h2, h3⟩ := h
      exact ⟨v, fun w _ => h2 w, h3⟩
    · next h1 =>
      rw [if_neg h1]
      exact h
end
theorem ptr_ne {g h : Nat} (hne : Value.pointer (some ⟨g, 0, none⟩) ≠ Value.pointer (some ⟨h, 0, none⟩)) : g ≠ h := fun e => hne (by rw [e])
end Go.Proofs.Ytddbmckbankmeaa
