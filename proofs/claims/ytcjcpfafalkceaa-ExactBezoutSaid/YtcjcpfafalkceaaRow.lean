/- Arguments of the type api.Int, opened. -/
import Derived.Test.YtcjcpfafalkceaaK
import Derived.ProofKit
import Derived.OpenShut
import Derived.ChangeSlices
import Derived.Lib.SmallJoins
set_option linter.unusedVariables false
namespace Go.Proofs.Ytcjcpfafalkceaa
open Go.ChangeShapes Go.WideShapes Go.ChangeAt Go.RowKit Go.Joins
theorem Try.cellsInt : Try.prog.cellsOf 24 = 2 := by kernel_rfl
theorem u32_nat {n : Int} (h : (Lit.int .u32 n).wf = true) : n.toNat < 4294967296 ∧ ((n.toNat : Nat) : Int) = n := by
  have h2 : 0 ≤ n ∧ n ≤ 4294967295 := by
    simp [Lit.wf, IntKind.min, IntKind.max, IntKind.signed, IntKind.bits] at h
    omega
  omega
set_option maxRecDepth 100000 in
theorem open_Int {H : Type} {enc : TypeId × Value → H} {W : World} {base : Nat} {v : Value} {d : DataW H} {p : List MemPlace}
    (hv : Value.okWide Try.prog W .any base 24 v) (h : DataW.Trod enc Try.prog W 0 (fun _ => true) true 24 v d p) : ∃ r : Raw, v = r.v ∧ r.at_ W := by
  obtain ⟨c0, c1, y0, y1, m, rfl, rfl, rfl, hy0, hy1⟩ := open_agg2 Try.underlying24 (by kernel_rfl) Try.cellsInt hv h
  obtain ⟨b, e0, rfl⟩ := DataW.trod_bool Try.underlying4 hy0
  rcases open_ints Try.underlying22 Try.underlying72 (by kernel_rfl) hy1 with ⟨hcs, _⟩ | ⟨x, l, c, zs, hcs, _, hl, hm, hz, _, hcell, hwz⟩
  · simp at e0 hcs
    subst e0 hcs
    exact ⟨⟨b, none, 0, []⟩, rfl, RN.nil _ _, (fun x hx => by cases hx), Nat.le_refl _, by show 0 ≤ _; omega⟩
  · simp at e0 hcs
    subst e0 hcs
    unfold maxLen at hm
    have hzl : zs.length = c := by simpa using hz
    have hlen : ((zs.take l).map Int.toNat).length = l := by rw [List.length_map, List.length_take]; omega
    refine ⟨⟨b, some x, c, (zs.take l).map Int.toNat⟩, by unfold Raw.v; rw [hlen], fun hn => ⟨x, rfl, fun j hj => ?_⟩, ?_, by show _ ≤ c; rw [hlen]; exact hl, hm⟩
    · have hjl : j < l := by rwa [hlen] at hj
      rw [hcell j (by omega)]
      have hw := (u32_nat (hwz _ (List.getElem_mem (show j < zs.length by omega)))).2
      have e1 : zs.getD j 0 = zs[j] := by simp [show j < zs.length by omega]
      have e2 : ((zs.take l).map Int.toNat).getD j 0 = (zs[j]).toNat := by
        rw [List.getD_eq_getElem?_getD, List.getElem?_map, List.getElem?_take, if_pos hjl, List.getElem?_eq_getElem (show j < zs.length by omega)]
        rfl
      rw [e1, e2, hw]
    · intro y hy
      obtain ⟨z, hzm, rfl⟩ := List.mem_map.1 hy
      exact (u32_nat (hwz z (List.mem_of_mem_take hzm))).1
end Go.Proofs.Ytcjcpfafalkceaa
