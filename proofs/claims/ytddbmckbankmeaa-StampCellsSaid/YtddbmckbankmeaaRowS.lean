/- Arguments of the types cantingref03.Stamp and cantingref03.Move, opened. -/
import Derived.Test.YtddbmckbankmeaaLib
import Derived.ProofKit
import Derived.OpenShut
import Derived.ChangeSlices
import Derived.Lib.SmallJoins
set_option linter.unusedVariables false
namespace Go.Proofs.Ytddbmckbankmeaa
open Go.ChangeShapes Go.WideShapes Go.ChangeAt Go.RowKit Go.Joins
theorem cellsStamp : Try.prog.cellsOf 24 = 3 := by kernel_rfl
theorem cellsMove : Try.prog.cellsOf 26 = 4 := by kernel_rfl
/-- A stamp as it is handed in. -/
structure RSt where
  W : Int
  H : Int
  A : Option Addr
  k : Nat
  xs : List Int
def RSt.v (r : RSt) : Value := .agg #[.int .i64 r.W, .int .i64 r.H, .slice r.A r.xs.length r.k]
def RSt.at_ (r : RSt) (w : World) : Prop := RI w r.A r.xs ∧ r.xs.length ≤ r.k ∧ (r.A = none → r.k = 0)
/-- A move as it is handed in. -/
structure RMv where
  x : Int
  y : Int
  t : Int
  f : Bool
def RMv.v (r : RMv) : Value := .agg #[.int .i64 r.x, .int .i64 r.y, .int .i64 r.t, .bool r.f]
set_option maxRecDepth 100000 in
theorem open_Stamp {H : Type} {enc : TypeId × Value → H} {W : World} {base : Nat} {v : Value} {d : DataW H} {p : List MemPlace}
    (hv : Value.okWide Try.prog W .any base 24 v) (h : DataW.Trod enc Try.prog W 0 (fun _ => true) true 24 v d p) : ∃ r : RSt, v = r.v ∧ r.at_ W := by
  obtain ⟨c0, c1, c2, y0, y1, y2, m, rfl, rfl, rfl, hy0, hy1, hy2⟩ := open_agg3 Try.underlying24 (by kernel_rfl) cellsStamp hv h
  obtain ⟨a0, e0, _, _⟩ := DataW.trod_int Try.underlying3 hy0
  obtain ⟨a1, e1, _, _⟩ := DataW.trod_int Try.underlying3 hy1
  rcases open_ints Try.underlying22 Try.underlying3 (by kernel_rfl) hy2 with ⟨hcs, _⟩ | ⟨x, l, c, zs, hcs, _, hl, hm, hz, _, hcell, hwz⟩
  · simp at e0 e1 hcs
    subst e0 e1 hcs
    exact ⟨⟨a0, a1, none, 0, []⟩, rfl, RI.nil _ _, Nat.le_refl _, fun _ => rfl⟩
  · simp at e0 e1 hcs
    subst e0 e1 hcs
    have hzl : zs.length = c := by simpa using hz
    have hlen : (zs.take l).length = l := by rw [List.length_take]; omega
    refine ⟨⟨a0, a1, some x, c, zs.take l⟩, by unfold RSt.v; rw [hlen], fun hn => ⟨x, rfl, fun j hj => ?_⟩, ?_, fun h => by cases h⟩
    · have hjl : j < l := by rwa [hlen] at hj
      rw [hcell j (by omega)]
      have e2 : (zs.take l).getD j 0 = zs.getD j 0 := by
        rw [List.getD_eq_getElem?_getD, List.getD_eq_getElem?_getD, List.getElem?_take, if_pos hjl]
      rw [e2]
    · show _ ≤ c
      rw [hlen]; exact hl
set_option maxRecDepth 100000 in
theorem open_Move {H : Type} {enc : TypeId × Value → H} {W : World} {base : Nat} {v : Value} {d : DataW H} {p : List MemPlace}
    (hv : Value.okWide Try.prog W .any base 26 v) (h : DataW.Trod enc Try.prog W 0 (fun _ => true) true 26 v d p) : ∃ r : RMv, v = r.v ∧ True := by
  obtain ⟨c0, c1, c2, c3, y0, y1, y2, y3, m, rfl, rfl, rfl, hy0, hy1, hy2, hy3⟩ := open_agg4 Try.underlying26 (by kernel_rfl) cellsMove hv h
  obtain ⟨a0, e0, _, _⟩ := DataW.trod_int Try.underlying3 hy0
  obtain ⟨a1, e1, _, _⟩ := DataW.trod_int Try.underlying3 hy1
  obtain ⟨a2, e2, _, _⟩ := DataW.trod_int Try.underlying3 hy2
  obtain ⟨a3, e3, _⟩ := DataW.trod_bool Try.underlying4 hy3
  simp at e0 e1 e2 e3
  subst e0 e1 e2 e3
  exact ⟨⟨a0, a1, a2, a3⟩, rfl, trivial⟩
end Go.Proofs.Ytddbmckbankmeaa
