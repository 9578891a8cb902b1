/- Arguments of the type []cantingref03.Move, opened. -/
import Derived.Test.YtddbmckbankmeaaRowS
import Derived.Test.YtddbmckbankmeaaUa
set_option linter.unusedVariables false
namespace Go.Proofs.Ytddbmckbankmeaa
open Go.ChangeShapes Go.WideShapes Go.ChangeAt Go.RowKit Go.Joins
theorem cellsIntR : Try.prog.cellsOf 3 = 1 := by kernel_rfl
theorem cellsBoolR : Try.prog.cellsOf 4 = 1 := by kernel_rfl
/-- A list of moves as it is handed in. -/
structure RMs where
  A : Option Addr
  k : Nat
  ms : List Mv
def RMs.v (r : RMs) : Value := .slice r.A r.ms.length r.k
def RMs.at_ (r : RMs) (w : World) : Prop := RdM w r.A r.ms ∧ r.ms.length ≤ 9223372036854775807
set_option maxRecDepth 100000 in
theorem move_trod {H : Type} {enc : TypeId × Value → H} {W : World} {n : Nat} {cs : List Value} {y : DataW H × List MemPlace}
    (h : DataW.trod enc Try.prog W 0 (fun _ => true) true n 26 cs = some y) : ∃ m : Mv, cs = [.int .i64 m.x, .int .i64 m.y, .int .i64 m.t, .bool m.f] := by
  obtain ⟨y0, y1, y2, y3, m, hx, hl, h0, h1, h2, h3⟩ := trod_struct4 Try.underlying26 h
  have hl4 : cs.length = 4 := hl.trans cellsMove
  match cs, hl4 with
  | [c0, c1, c2, c3], _ =>
    have h0' : DataW.trod enc Try.prog W 0 (fun _ => true) true m 3 [c0] = some y0 := by simpa [cellsIntR] using h0
    have h1' : DataW.trod enc Try.prog W 0 (fun _ => true) true m 3 [c1] = some y1 := by simpa [cellsIntR] using h1
    have h2' : DataW.trod enc Try.prog W 0 (fun _ => true) true m 3 [c2] = some y2 := by simpa [cellsIntR] using h2
    have h3' : DataW.trod enc Try.prog W 0 (fun _ => true) true m 4 [c3] = some y3 := by simpa [cellsBoolR] using h3
    obtain ⟨a0, e0, _, _⟩ := DataW.trod_int Try.underlying3 h0'
    obtain ⟨a1, e1, _, _⟩ := DataW.trod_int Try.underlying3 h1'
    obtain ⟨a2, e2, _, _⟩ := DataW.trod_int Try.underlying3 h2'
    obtain ⟨a3, e3, _⟩ := DataW.trod_bool Try.underlying4 h3'
    simp at e0 e1 e2 e3
    subst e0 e1 e2 e3
    exact ⟨⟨a0, a1, a2, a3⟩, rfl⟩
set_option maxRecDepth 100000 in
theorem open_Moves {H : Type} {enc : TypeId × Value → H} {W : World} {base : Nat} {v : Value} {d : DataW H} {p : List MemPlace}
    (hv : Value.okWide Try.prog W .any base 51 v) (h : DataW.Trod enc Try.prog W 0 (fun _ => true) true 51 v d p) : ∃ r : RMs, v = r.v ∧ r.at_ W := by
  obtain ⟨fuel, hf⟩ := h
  have hvc : ∃ A l k, v = .slice A l k := okWide_slice Try.underlying51 hv
  obtain ⟨A, l, k, rfl⟩ := hvc
  rcases DataW.trod_slice Try.underlying51 hf with ⟨hcs, _⟩ | ⟨a, len, cap, elems, rest, n, _, hcs, _, hb, hl, hm, hlen, hel, hsp, hns⟩
  · simp [Value.cells] at hcs
    obtain ⟨rfl, rfl, rfl⟩ := hcs
    refine ⟨⟨none, 0, []⟩, rfl, ?_, ?_⟩
    · intro j m hj
      cases hj
    · show 0 ≤ _
      omega
  · simp [Value.cells] at hcs
    obtain ⟨rfl, rfl, rfl⟩ := hcs
    have each : ∀ i, i < l → ∃ m : Mv, W.cells? 0 (a.add (i * 4)) 4 = some [.int .i64 m.x, .int .i64 m.y, .int .i64 m.t, .bool m.f] := by
      intro i hi
      have he := hel i hi
      rw [List.getElem?_eq_getElem (by omega), cellsMove] at he
      cases hc : W.cells? 0 (a.add (i * 4)) 4 with
      | none => rw [hc] at he; simp at he
      | some cs =>
        rw [hc] at he
        simp only [Option.bind_some] at he
        obtain ⟨m, rfl⟩ := move_trod he
        exact ⟨m, rfl⟩
    refine ⟨⟨some a, k, (List.range l).map fun i => if hi : i < l then (each i hi).choose else ⟨0, 0, 0, false⟩⟩, ?_, ?_, ?_⟩
    · unfold RMs.v
      simp
    · intro j m hj
      refine ⟨a, rfl, ?_⟩
      rw [List.getElem?_map] at hj
      have hjl : j < l := by
        cases hr : (List.range l)[j]? with
        | none => rw [hr] at hj; cases hj
        | some z => have := (List.getElem?_eq_some_iff.1 hr).1; simpa using this
      rw [List.getElem?_range hjl] at hj
      simp only [Option.map_some, Option.some.injEq, dif_pos hjl] at hj
      have hc := (each j hjl).choose_spec
      rw [hj] at hc
      have hq := (World.cells?_some hc).2.2
      have q0 := hq 0 (by simp)
      have q1 := hq 1 (by simp)
      have q2 := hq 2 (by simp)
      have q3 := hq 3 (by simp)
      simp only [Addr.add_add] at q0 q1 q2 q3 ⊢
      simp at q0 q1 q2 q3
      exact ⟨q0, q1, q2, q3⟩
    · show ((List.range l).map _).length ≤ _
      rw [List.length_map, List.length_range]
      unfold maxLen at hm
      omega
end Go.Proofs.Ytddbmckbankmeaa
