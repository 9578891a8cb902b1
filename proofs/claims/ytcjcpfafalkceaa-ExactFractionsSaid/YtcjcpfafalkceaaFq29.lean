/- Part 29 of the texts behind this claim. -/
import Derived.Test.YtcjcpfafalkceaaFq6
import Derived.Test.YtcjcpfafalkceaaFq28
set_option linter.unusedVariables false
namespace Go.Proofs.Ytcjcpfafalkceaa
open Go.ChangeShapes Go.WideShapes Go.ChangeAt Go.RowKit Go.Joins
theorem cellsBool : Try.prog.cellsOf 4 = 1 := by kernel_rfl
theorem cellsWords : Try.prog.cellsOf 22 = 1 := by kernel_rfl
theorem cellsRat : Try.prog.cellsOf 58 = 4 := by kernel_rfl
set_option maxRecDepth 100000 in
theorem raw_trod {H : Type} {enc : TypeId × Value → H} {W : World} {n : Nat} {c0 c1 : Value} {y : DataW H × List MemPlace}
    (h : DataW.trod enc Try.prog W 0 (fun _ => true) true n 24 [c0, c1] = some y) : ∃ r : Raw, c0 = .bool r.neg ∧ c1 = .slice r.A r.xs.length r.c ∧ r.at_ W := by
  obtain ⟨y0, y1, m, hx, _, hy0, hy1⟩ := trod_struct2 Try.underlying24 h
  have hy0' : DataW.trod enc Try.prog W 0 (fun _ => true) true m 4 [c0] = some y0 := by simpa [cellsBool] using hy0
  have hy1' : DataW.trod enc Try.prog W 0 (fun _ => true) true m 22 [c1] = some y1 := by simpa [cellsWords] using hy1
  obtain ⟨b, e0, rfl⟩ := DataW.trod_bool Try.underlying4 hy0'
  rcases open_ints Try.underlying22 Try.underlying72 (by kernel_rfl) hy1' with ⟨hcs, _⟩ | ⟨x, l, c, zs, hcs, _, hl, hm, hz, _, hcell, hwz⟩
  · simp at e0 hcs
    subst e0 hcs
    exact ⟨⟨b, none, 0, []⟩, rfl, rfl, RN.nil _ _, (fun x hx => by cases hx), Nat.le_refl _, by show 0 ≤ _; omega⟩
  · simp at e0 hcs
    subst e0 hcs
    unfold maxLen at hm
    have hzl : zs.length = c := by simpa using hz
    have hlen : ((zs.take l).map Int.toNat).length = l := by rw [List.length_map, List.length_take]; omega
    refine ⟨⟨b, some x, c, (zs.take l).map Int.toNat⟩, rfl, by rw [hlen], fun hn => ⟨x, rfl, fun j hj => ?_⟩, ?_, by show _ ≤ c; rw [hlen]; exact hl, hm⟩
    · have hjl : j < l := by rwa [hlen] at hj
      rw [hcell j (by omega)]
      have hw := (u32_nat (hwz _ (List.getElem_mem (show j < zs.length by omega)))).2
      have e1 : zs.getD j 0 = zs[j] := by simp [show j < zs.length by omega]
      have e2 : ((zs.take l).map Int.toNat).getD j 0 = (zs[j]).toNat := by
        rw [List.getD_eq_getElem?_getD, List.getElem?_map, List.getElem?_take, if_pos hjl, List.getElem?_eq_getElem (show j < zs.length by omega)]
        rfl
      rw [e1, e2, hw]
    · intro y hy
      obtain ⟨z, hzm, rfl⟩ := List.mem_map.1 hy
      exact (u32_nat (hwz z (List.mem_of_mem_take hzm))).1
def RQ.v (f : RQ) : Value := .agg #[.bool f.n.neg, .slice f.n.A f.n.xs.length f.n.c, .bool f.d.neg, .slice f.d.A f.d.xs.length f.d.c]
def RQ.at_ (f : RQ) (w : World) : Prop := f.n.at_ w ∧ f.d.at_ w
theorem RQ.isL {f : RQ} {w : World} (h : f.at_ w) : (Go.Proofs.Ytcjcpfafalkceaa.isL [rC f.n, rC f.d]).p f.v w := isL_two.2 ⟨_, _, _, _, rfl, ⟨rfl, rfl, h.1⟩, ⟨rfl, rfl, h.2⟩⟩
set_option maxRecDepth 100000 in
theorem open_Rat {H : Type} {enc : TypeId × Value → H} {W : World} {base : Nat} {v : Value} {d : DataW H} {p : List MemPlace}
    (hv : Value.okWide Try.prog W .any base 58 v) (h : DataW.Trod enc Try.prog W 0 (fun _ => true) true 58 v d p) : ∃ r : RQ, v = r.v ∧ r.at_ W := by
  obtain ⟨cs, rfl, hsz⟩ := okWide_struct Try.underlying58 hv
  obtain ⟨c0, c1, c2, c3, rfl⟩ := array4 (hsz.trans cellsRat)
  obtain ⟨fuel, hf⟩ := h
  obtain ⟨y0, y1, n, hx, _, h0, h1⟩ := trod_struct2 Try.underlying58 hf
  have h0' : DataW.trod enc Try.prog W 0 (fun _ => true) true n 24 [c0, c1] = some y0 := by simpa [Value.cells, Try.cellsInt] using h0
  have h1' : DataW.trod enc Try.prog W 0 (fun _ => true) true n 24 [c2, c3] = some y1 := by simpa [Value.cells, Try.cellsInt] using h1
  obtain ⟨r, rfl, rfl, k⟩ := raw_trod h0'
  obtain ⟨s, rfl, rfl, k'⟩ := raw_trod h1'
  exact ⟨⟨r, s⟩, rfl, k, k'⟩
end Go.Proofs.Ytcjcpfafalkceaa
