/- A set of moves as a map that the function made. -/
import Derived.Test.YtddbmckbankmeaaUb
import Derived.Maps.OwnOps
import Derived.Maps.Views
import Derived.Maps.OwnSet
import Derived.WideKeyArgs2
import Derived.DeepKeys4
import Derived.MapViews
import Derived.ChangeSame
import Derived.Lib.SmallJoins
set_option linter.unusedVariables false
set_option linter.unusedSimpArgs false
namespace Go.Proofs.Ytddbmckbankmeaa
open Go.RowKit Go.ChangeShapes Go.WideShapes Go.ChangeAt Go.WideMaps Go.Joins
open Go.Maps (Keyed)
theorem laidM : laidOutB Try.prog = true := by kernel_rfl
theorem rowM : (31 : TypeId) < Try.prog.types.size := of_decide_eq_true (by kernel_rfl)
theorem cellsSM : Try.prog.cellsOf 31 = 4 := by kernel_rfl
theorem cellsI1 : Try.prog.cellsOf 3 = 1 := by kernel_rfl
theorem cellsB1 : Try.prog.cellsOf 4 = 1 := by kernel_rfl
theorem deepM : Try.prog.keyTypeAt (Try.prog.types.size + 1) 31 = true := by kernel_rfl
theorem wideM : (match Try.prog.underlying 31 with | some (.array _ _) | some (.struct _) => true | _ => false) = true := by kernel_rfl
set_option maxRecDepth 100000 in
theorem lawM : KeyLaw Try.prog 31 := deep_law_laid laidM (m := 3) (by omega) rowM (by kernel_rfl) wideM
theorem keyedM : Keyed Try.prog 31 := Keyed.of_law lawM
def mvv (m : Mv) : Value := .agg #[.int .i64 m.x, .int .i64 m.y, .int .i64 m.t, .bool m.f]
/-- Numbers that fit. -/
def WfM (m : Mv) : Prop := (Lit.int .i64 m.x).wf = true ∧ (Lit.int .i64 m.y).wf = true ∧ (Lit.int .i64 m.t).wf = true
theorem wf_small {i : Int} (h : -1000 ≤ i ∧ i ≤ 1000) : (Lit.int .i64 i).wf = true := by
  simp [Lit.wf, IntKind.min, IntKind.max, IntKind.signed, IntKind.bits]
  omega
theorem Al.wf {W H : Int} {m : Mv} (h : Al W H m) : WfM m := by
  have h1 := h.w
  have h2 := h.h
  have h3 := h.x
  have h4 := h.y
  have h5 := h.t
  exact ⟨wf_small (by omega), wf_small (by omega), wf_small (by omega)⟩
theorem wf_zero : WfM ⟨0, 0, 0, false⟩ := ⟨wf_small (by simp), wf_small (by simp), wf_small (by simp)⟩
set_option maxRecDepth 100000 in
theorem key_of (w : World) {m : Mv} (h : WfM m) : ∃ kl, keyOf Try.prog 31 (mvv m) = some kl := by
  have hf : (mvv m).formed Try.prog 31 = true := by simp [Value.formed, mvv, Try.underlying31, cellsSM]
  have ht : DataW.Trod (H := Unit) (fun _ => ()) Try.prog w 0 (fun _ => true) true 31 (mvv m) (.agg [.lit (.int .i64 m.x), .lit (.int .i64 m.y), .lit (.int .i64 m.t), .lit (.bool m.f)]) [] :=
    ⟨2, by
      have h0 := trod_int_mk (H := Unit) (enc := fun _ => ()) (P := Try.prog) (w := w) (base := 0) (spare := fun _ => true) (held := true) 0 Try.underlying3 h.1
      have h1 := trod_int_mk (H := Unit) (enc := fun _ => ()) (P := Try.prog) (w := w) (base := 0) (spare := fun _ => true) (held := true) 0 Try.underlying3 h.2.1
      have h2 := trod_int_mk (H := Unit) (enc := fun _ => ()) (P := Try.prog) (w := w) (base := 0) (spare := fun _ => true) (held := true) 0 Try.underlying3 h.2.2
      have h3 : DataW.trod (H := Unit) (fun _ => ()) Try.prog w 0 (fun _ => true) true 1 4 [.bool m.f] = some (.lit (.bool m.f), []) := by simp [DataW.trod, Try.underlying4]
      exact trod_struct4_mk (n := 1) (cs := [.int .i64 m.x, .int .i64 m.y, .int .i64 m.t, .bool m.f]) Try.underlying31 cellsSM.symm (by simpa [cellsI1] using h0) (by simpa [cellsI1] using h1) (by simpa [cellsI1] using h2) (by simpa [cellsB1] using h3)⟩
  exact ⟨_, (keyOf_asKey deepM wideM hf ht).1⟩
theorem mvv_inj {m n : Mv} (h : mvv m = mvv n) : m = n := by
  obtain ⟨x, y, t, f⟩ := m
  obtain ⟨x', y', t', f'⟩ := n
  simp [mvv] at h
  simp [h]
theorem plainElem_bool_inv {P : Program} {e : TypeId} (he : P.underlying e = some .bool) {v : Value} {z : DataW Unit × List MemPlace} (h : plainElem P e v = some z) : ∃ b, v = .bool b ∧ z = (.lit (.bool b), []) := by
  unfold plainElem at h
  rw [he] at h
  cases v <;> simp at h
  exact ⟨_, rfl, h.symm⟩
/-- Whether a move is in a list. -/
def mvEq (m n : Mv) : Bool := m.x == n.x && (m.y == n.y && (m.t == n.t && m.f == n.f))
theorem mvEq_iff {m n : Mv} : mvEq m n = true ↔ m = n := by
  obtain ⟨x, y, t, f⟩ := m
  obtain ⟨x', y', t', f'⟩ := n
  simp [mvEq]
def memB (m : Mv) (ms : List Mv) : Bool := ms.any (mvEq m)
theorem memB_iff {m : Mv} {ms : List Mv} : memB m ms = true ↔ m ∈ ms := by
  unfold memB
  rw [List.any_eq_true]
  exact ⟨fun ⟨n, h1, h2⟩ => by rw [mvEq_iff.1 h2]; exact h1, fun h => ⟨m, h, mvEq_iff.2 rfl⟩⟩
/-- The block holds just these moves. -/
def MapM (w : World) (b : Nat) (ms : List Mv) : Prop := ∃ D : DataW Unit, w.ownsMap Try.prog 31 (plainElem Try.prog 4) b ms.length D ∧
  ∀ m kl, WfM m → keyOf Try.prog 31 (mvv m) = some kl → D.atKey kl (.lit (.bool false)) = .lit (.bool (memB m ms))
theorem zeroBool (w : World) : (zeroValue 4).run Try.prog w = .ok (.bool false) w := by kernel_rfl
section
variable {w w' : World} {b : Nat} {ms : List Mv} {m : Mv}
theorem mapM_made (w : World) : MapM (w.alloc (.map #[] 0)) w.heap.size [] := ⟨.map [], World.ownsMap_made _ _ _ _, fun m kl _ _ => rfl⟩
theorem MapM.to (h : MapM w b ms) (hb : Below w.heap.size w w') : MapM w' b ms := by
  obtain ⟨D, h1, h2⟩ := h
  exact ⟨D, h1.kept (row := none) ⟨hb.os, hb.tape, hb.output, hb.size, fun k hk _ => hb.block k hk⟩ (by simp), h2⟩
theorem MapM.put (h : MapM w b ms) {g o : Nat} {vs : List Value} (hlt : b < g) : MapM (putL w g o vs) b ms := by
  obtain ⟨D, ⟨es, clock, hb, F, hs, hD⟩, h2⟩ := h
  exact ⟨D, ⟨es, clock, ((putL_below (Nat.le_refl g) vs w o (Below.refl g w)).block b hlt).trans hb, F, hs, hD⟩, h2⟩
theorem MapM.lt (h : MapM w b ms) : b < w.heap.size := by
  obtain ⟨D, h1, _⟩ := h
  exact h1.lt
theorem MapM.look (h : MapM w b ms) (hw : WfM m) : (Instr.lookup 118 (.map (some b)) (mvv m) false).run Try.prog w = .ok (.bool (memB m ms)) w := by
  obtain ⟨D, h1, h2⟩ := h
  obtain ⟨kl, hk⟩ := key_of w hw
  obtain ⟨v, ps, hrun, hv⟩ := h1.lookup keyedM Try.underlying118 (zeroBool w) (plainElem_bool Try.underlying4 false) hk
  obtain ⟨c, rfl, hc⟩ := plainElem_bool_inv Try.underlying4 hv
  rw [h2 m kl hw hk] at hc
  simp only [Prod.mk.injEq, DataW.lit.injEq, Lit.bool.injEq] at hc
  rw [hrun, hc.1]
theorem MapM.store (h : MapM w b ms) (hw : WfM m) (hn : ms.length < maxLen) : ∃ w', (Instr.mapUpdate 118 (.map (some b)) (mvv m) (.bool true)).run Try.prog w = .ok () w' ∧ MapM w' b (ms ++ [m]) ∧ w.grownBy w' (some b) := by
  obtain ⟨D, h1, h2⟩ := h
  obtain ⟨kl, hk⟩ := key_of w hw
  obtain ⟨w', r1, r2, r3⟩ := h1.update keyedM Try.underlying118 hn hk (plainElem_bool Try.underlying4 true)
  refine ⟨w', r1, ⟨D.put kl (.lit (.bool true)), by rw [List.length_append]; exact r2, fun n nl hnw hnk => ?_⟩, r3⟩
  by_cases e : nl = kl
  · subst e
    have := mvv_inj (keyedM.inj hnk hk)
    subst this
    rw [Maps.atKey_put_same h1.isMap (keyedM.key hk)]
    rw [show memB n (ms ++ [n]) = true from memB_iff.2 (by simp)]
  · rw [Maps.atKey_put_other e, h2 n nl hnw hnk]
    have hne : n ≠ m := fun e2 => by
      subst e2
      rw [hnk] at hk
      exact e (Option.some.inj hk)
    have : memB n (ms ++ [m]) = memB n ms := by
      unfold memB
      rw [List.any_append]
      have : mvEq n m = false := by
        cases hq : mvEq n m
        · rfl
        · exact absurd (mvEq_iff.1 hq) hne
      simp [this]
    rw [this]
end
section
variable {Q : Exit → Act → World → Prop} {o : Oper} {a : Act} {w : World} {d b : Nat} {x y : Operand} {m : Mv} {ms : List Mv}
theorem op_lookM (ho : o.op = .lookup 118 x y false) (hd : o.dst = some d) (hx : a.eval x = .map (some b)) (hy : a.eval y = .agg #[.int .i64 m.x, .int .i64 m.y, .int .i64 m.t, .bool m.f]) (h : MapM w b ms) (hw : WfM m) :
    o.wp Try.prog a w (Post a w d (isV (.bool (memB m ms))).p) Q := by
  refine op_run (v := .bool (memB m ms)) hd ?_ rfl
  have hl := h.look hw
  unfold mvv at hl
  generalize a.eval = ev at hx hy ⊢
  unfold execOp
  simp only [ho, hx, hy]
  simp [go_sem, hl]
end
end Go.Proofs.Ytddbmckbankmeaa
