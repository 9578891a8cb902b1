/- Part 19 of the texts behind this claim. -/
import Derived.Test.YtcjcpfafalkceaaFq17
import Derived.Test.YtcjcpfafalkceaaFq18
set_option linter.unusedVariables false
set_option linter.unusedSimpArgs false
namespace Go.Proofs.Ytcjcpfafalkceaa
open Go.RowKit
def DepsD (ds AL : List Nat) (V : Nat → Value → World → Prop) (i : Nat) (a : Act) (w : World) : Prop :=
  ∀ j, (decide (j < i) && !AL.contains j) = true → V j (a.eval (.tmp (ds.getD j 0))) w
theorem wp_region_vd {id : Nat} {l : List Oper} {a0 : Act} {w0 : World} {Q : Exit → Act → World → Prop} (n1 : Nat) (ds E AL : List Nat) (T : TypeId) (z : List Value) (Vs : List SP)
    (hD : VarG l n1 ds E AL T a0.tmps.size = true)
    (hz : ∀ w : World, (Instr.alloc T true (.tuple #[])).run Try.prog w = .ok (.pointer (some ⟨w.heap.size, 0, none⟩)) (w.alloc (.cells z.toArray T)))
    (hop : ∀ i, i < n1 → AL.contains i = false → ∀ a w, Below w0.heap.size w0 w → (∀ t, ds.contains t = false → a.eval (.tmp t) = a0.eval (.tmp t)) → DepsD ds AL (vp Vs) i a w →
      match l[i]? with | none => True | some o => (WantG l ds o a true ∧ if E.contains i then ∃ v, (∀ w, (execOp a.eval o).run Try.prog w = .ok (.value v) w) ∧ vp Vs i v w else o.wp Try.prog a w (Post a w (ds.getD i 0) (vp Vs i)) Q) ∨ (WantG l ds o a false ∧ vp Vs i undef w))
    (hend : ∀ (vs : Nat → Value) (w : World), Below w0.heap.size w0 w → (∀ i, i < n1 → AL.contains i = false → vp Vs i (vs (ds.getD i 0)) w) →
      (∀ i, AL.contains i = true → ∃ g, vs (ds.getD i 0) = .pointer (some ⟨g, 0, none⟩) ∧ w0.heap.size ≤ g ∧ Blk w g T z) → (∀ i j, AL.contains i = true → AL.contains j = true → i ≠ j → vs (ds.getD i 0) ≠ vs (ds.getD j 0)) → wpList Try.prog l.toArray Q (l.drop n1) (putAll a0 ds vs) w) :
    (Code.region id l.toArray false).wp Try.prog Q a0 w0 := by
  unfold VarG at hD
  simp only [Bool.and_eq_true, decide_eq_true_eq, List.all_eq_true, List.mem_range] at hD
  obtain ⟨⟨⟨⟨⟨⟨hdl, hnl⟩, hdt⟩, hnd⟩, hEE⟩, hAA⟩, hops⟩ := hD
  have hop1 : ∀ i, i < n1 → ∃ o, l[i]? = some o ∧ o.dst = some (ds.getD i 0) ∧ (AL.contains i = true → o.guard = none) ∧ (AL.contains i = true → o.op = .alloc T) := by
    intro i hi
    have h := hops i hi
    cases ho : l[i]? with
    | none => rw [ho] at h; cases h
    | some o =>
      rw [ho] at h
      simp only [Bool.and_eq_true, decide_eq_true_eq, Bool.or_eq_true, Bool.not_eq_true', Option.isNone_iff_eq_none] at h
      refine ⟨o, rfl, h.1.1, fun hA => h.1.2.elim (fun h3 => by rw [hA] at h3; cases h3) (fun h3 => h3), fun hA => ?_⟩
      rcases h.2 with h2 | h2
      · rw [hA] at h2; cases h2
      · revert h2
        cases o.op <;> simp
  have hdi : ∀ i, i < n1 → ds.getD i 0 < a0.tmps.size := by
    intro i hi
    have : ds.getD i 0 ∈ ds := by
      rw [List.getD_eq_getElem?_getD, List.getElem?_eq_getElem (by omega)]
      exact List.getElem_mem _
    exact hdt _ this
  let V : Nat → Value → World → Prop := vp Vs
  have hV : ∀ i v w w', V i v w → Below w.heap.size w w' → V i v w' := fun i v w w' h hb => (Vs.getD i SP.any).st v w w' h hb
  let F : Nat → Value → World → Prop := fun i v w => if AL.contains i then ∃ g, v = .pointer (some ⟨g, 0, none⟩) ∧ w0.heap.size ≤ g ∧ Blk w g T z else V i v w
  have hFs : ∀ i v w w', F i v w → Below w.heap.size w w' → F i v w' := by
    intro i v w w' h hb
    show if _ then _ else _
    have h' : if _ then _ else _ := h
    split at h'
    · next hA =>
      rw [if_pos hA]
      obtain ⟨g, h1, h2, h3⟩ := h'
      exact ⟨g, h1, h2, h3.to hb⟩
    · next hA => rw [if_neg hA]; exact hV _ _ _ _ h' hb
  let I : Nat → Act → World → Prop := fun k a w => Below w0.heap.size w0 w ∧ a.defers = a0.defers ∧ a.tmps.size = a0.tmps.size ∧ (∀ t, t ∉ ds → a0.tmps[t]? = a.tmps[t]?) ∧
    (∀ i, i < n1 → i < k → F i (a.eval (.tmp (ds.getD i 0))) w) ∧
    (∀ i j, AL.contains i = true → AL.contains j = true → i ≠ j → i < k → j < k → a.eval (.tmp (ds.getD i 0)) ≠ a.eval (.tmp (ds.getD j 0)))
  have hAlt : ∀ i, AL.contains i = true → i < n1 := fun i h => hAA i (by simpa using h)
  have key : ∀ a w i v w', I i a w → i < n1 → Below w.heap.size w w' → F i v w' → (AL.contains i = true → ∀ j, AL.contains j = true → i ≠ j → j < i → v ≠ a.eval (.tmp (ds.getD j 0))) → I (i + 1) (a.put (some (ds.getD i 0)) v) w' := by
    intro a w i v w' ⟨hb, hdf, hts, hot, hf, hne⟩ hi hb' hv hd
    refine ⟨below_then hb hb.size hb', hdf, by simp [Act.put, hts], fun t ht => ?_, fun j hj hL => ?_, fun j k hj hk hjk hLj hLk => ?_⟩
    · have : ds.getD i 0 ≠ t := fun e => ht (by rw [← e, List.getD_eq_getElem?_getD, List.getElem?_eq_getElem (by omega)]; exact List.getElem_mem _)
      show _ = (a.tmps.setIfInBounds _ _)[t]?
      rw [Array.getElem?_setIfInBounds_ne this]
      exact hot t ht
    · by_cases hij : j = i
      · subst hij
        rw [eval_put_same (by rw [hts]; exact hdi _ hi)]
        exact hv
      · rw [eval_put_other (nodup_ne hnd (by omega) (by omega) (Ne.symm hij))]
        exact hFs _ _ _ _ (hf j hj (by omega)) hb'
    · have hjn := hAlt j hj
      have hkn := hAlt k hk
      by_cases hji : j = i
      · subst hji
        rw [eval_put_same (by rw [hts]; exact hdi _ hi), eval_put_other (nodup_ne hnd (by omega) (by omega) hjk)]
        exact hd hj k hk hjk (by omega)
      · by_cases hki : k = i
        · subst hki
          rw [eval_put_same (by rw [hts]; exact hdi _ hi), eval_put_other (nodup_ne hnd (by omega) (by omega) (Ne.symm hji))]
          exact Ne.symm (hd hk j hj (Ne.symm hjk) (by omega))
        · rw [eval_put_other (nodup_ne hnd (by omega) (by omega) (Ne.symm hji)), eval_put_other (nodup_ne hnd (by omega) (by omega) (Ne.symm hki))]
          exact hne j k hj hk hjk (by omega) (by omega)
  have main : ∀ m k, m + k = n1 → ∀ a w, I k a w → wpList Try.prog l.toArray Q (l.drop k) a w := by
    intro m
    induction m with
    | zero =>
      intro k hk a w ⟨hb, hdf, hts, hot, hf, hne⟩
      have hk1 : k = n1 := by omega
      subst hk1
      have he := putAll_eq (a := a) ds a0 hdf.symm hts.symm (fun d hd => by rw [hts]; exact hdt d hd) hot
      rw [← he]
      refine hend (fun t => a.eval (.tmp t)) w hb (fun i hi hA => ?_) (fun i hA => ?_) (fun i j hi hj hij => hne i j hi hj hij (hAlt i hi) (hAlt j hj))
      · have h3 : if AL.contains i then _ else _ := hf i hi hi
        rw [if_neg (by rw [hA]; simp)] at h3
        exact h3
      · have h3 : if AL.contains i then _ else _ := hf i (hAlt i hA) (hAlt i hA)
        rw [if_pos hA] at h3
        exact h3
    | succ m ih =>
      intro i hk a w hI
      have hi : i < n1 := by omega
      obtain ⟨o, ho, hdst, hg, hal⟩ := hop1 i hi
      have hcons : l.drop i = o :: l.drop (i + 1) := by
        have hlt : i < l.length := by omega
        rw [List.getElem?_eq_getElem hlt] at ho
        rw [← Option.some.inj ho]
        exact (List.getElem_cons_drop (h := hlt)).symm
      have next : ∀ a w, I (i + 1) a w → wpList Try.prog l.toArray Q (l.drop (i + 1)) a w := ih (i + 1) (by omega)
      rw [hcons]
      unfold wpList
      by_cases hA : AL.contains i = true
      · rw [if_pos (by simp [Region.wanted, hg hA])]
        refine .inl ?_
        unfold Oper.wp execOp
        simp only [hal hA, Sem.run_bind, hz, Result.andThen_ok, Sem.run_pure, Oper.upon, hdst]
        refine next _ _ (key a w i _ _ hI hi (below_alloc (Below.refl _ _) _) ?_ ?_)
        · show if _ then _ else _
          rw [if_pos hA]
          exact ⟨_, rfl, hI.1.size, heap_alloc_new _ _⟩
        · intro _ j hj hij hL
          have h3 : if AL.contains j then _ else _ := hI.2.2.2.2.1 j (hAlt j hj) hL
          rw [if_pos hj] at h3
          obtain ⟨g, hg1, _, hg2⟩ := h3
          rw [hg1]
          intro he
          have := hg2.lt
          injection he with he
          injection he with he
          injection he with he
          omega
      · have hA' : AL.contains i = false := by simpa using hA
        have hI2 := hI
        obtain ⟨hb, hdf, hts, hot, hf, hne⟩ := hI2
        have h3 := hop i hi hA' a w hb (fun t ht => by
          have := hot t (by simpa using ht)
          show a.tmps.getD t undef = a0.tmps.getD t undef
          simp only [Array.getD_eq_getD_getElem?, this]) (fun j hj => by
          simp only [Bool.and_eq_true, decide_eq_true_eq, Bool.not_eq_true'] at hj
          have h1 : if AL.contains j then _ else _ := hf j (by omega) hj.1
          rw [if_neg (by rw [hj.2]; simp)] at h1
          exact h1)
        rw [ho] at h3
        simp only at h3
        rcases h3 with ⟨hw, h3⟩ | ⟨hw, hv⟩
        · rw [if_pos hw.wanted]
          refine .inl ?_
          by_cases hE : E.contains i = true
          · rw [if_pos hE] at h3
            obtain ⟨v, hy, hv⟩ := h3
            unfold Oper.wp
            rw [hy]
            show wpList _ _ _ _ (a.put o.dst v) w
            rw [hdst]
            exact next _ _ (key a w i v w hI hi (Below.refl _ _) (by show if _ then _ else _; rw [if_neg hA]; exact hv) (fun h => absurd h hA))
          · rw [if_neg hE] at h3
            refine Oper.wp_mono (fun a' w' h => ?_) h3
            obtain ⟨v, rfl, hb', hv⟩ := h
            exact next _ _ (key a w i v w' hI hi hb' (by show if _ then _ else _; rw [if_neg hA]; exact hv) (fun h => absurd h hA))
        · rw [if_neg (by rw [hw.wanted]; simp), hdst]
          exact next _ _ (key a w i undef w hI hi (Below.refl _ _) (by show if _ then _ else _; rw [if_neg hA]; exact hv) (fun h => absurd h hA))
  refine wp_region_lit ?_
  have h0 := main n1 0 (by omega) a0 w0 ⟨Below.refl _ _, rfl, rfl, fun _ _ => rfl, fun i _ h => absurd h (by omega), fun i j _ _ _ h _ => absurd h (by omega)⟩
  rwa [List.drop_zero] at h0
end Go.Proofs.Ytcjcpfafalkceaa
set_option linter.unusedVariables false
set_option linter.unusedSimpArgs false
namespace Go.Proofs.Ytcjcpfafalkceaa
open Go.RowKit
section
variable {Q : Exit → Act → World → Prop} {o : Oper} {a : Act} {d : Nat} {x y z : Operand} {ty : TypeId} {k : Int} {b : Bool} {v v' : Value}
theorem op_neq0 (ho : o.op = .binOp .neq 3 x (.const (.int .i64 0)) ty) (hx : a.eval x = .int .i64 k) (w : World) : (execOp a.eval o).run Try.prog w = .ok (.value (.bool (!decide (k = 0)))) w := by
  unfold execOp
  have hc : a.eval (.const (.int .i64 0)) = .int .i64 0 := rfl
  simp only [ho, hx, hc]
  simp [go_sem]
  rfl
theorem op_pickT (ho : o.op = .pick x y z) (hx : a.eval x = .bool true) (hy : a.eval y = v) (w : World) : (execOp a.eval o).run Try.prog w = .ok (.value v) w := by
  unfold execOp
  simp only [ho, hx, hy]
  simp [go_sem]
theorem op_pickF (ho : o.op = .pick x y z) (hx : a.eval x = .bool false) (hz : a.eval z = v) (w : World) : (execOp a.eval o).run Try.prog w = .ok (.value v) w := by
  unfold execOp
  simp only [ho, hx, hz]
  simp [go_sem]
theorem op_not (ho : o.op = .unOp .not 4 x) (hx : a.eval x = .bool b) (w : World) : (execOp a.eval o).run Try.prog w = .ok (.value (.bool (!b))) w := by
  unfold execOp
  simp only [ho, hx]
  simp [go_sem]
end
end Go.Proofs.Ytcjcpfafalkceaa
set_option linter.unusedVariables false
set_option linter.unusedSimpArgs false
namespace Go.Proofs.Ytcjcpfafalkceaa
open Go.RowKit
def CAt (w : World) (g o : Nat) (c : CP) : Prop := ∃ u v, w.cell? ⟨g, o, none⟩ = some u ∧ w.cell? ⟨g, o + 1, none⟩ = some v ∧ c.p u v w
section
variable {w w' : World} {g o : Nat} {t : TypeId} {c d : CP} {l : List CP} {L : List Ent} {e : Ent}
theorem CAt.to (h : CAt w g o c) (hb : Below w.heap.size w w') : CAt w' g o c := by
  obtain ⟨u, v, h1, h2, h3⟩ := h
  exact ⟨u, v, (hb.cell (World.block_lt_of_cell? w _ h1)).trans h1, (hb.cell (World.block_lt_of_cell? w _ h2)).trans h2, c.st _ _ _ _ h3 hb⟩
theorem HL.a0 (k : HL w g t (c :: l)) : CAt w g 0 c := by
  obtain ⟨vs, hb, u, v, rest, rfl, hc, _⟩ := k
  exact ⟨u, v, hb.cell 0, hb.cell 1, hc⟩
theorem HL.a2 (k : HL w g t (c :: d :: l)) : CAt w g 2 d := by
  obtain ⟨vs, hb, u, v, rest, rfl, hc, x, y, rest, rfl, hd, _⟩ := k
  exact ⟨x, y, hb.cell 2, hb.cell 3, hd⟩
theorem isL_one {v : Value} : (isL [c]).p v w ↔ ∃ x y, v = .agg #[x, y] ∧ c.p x y w := by
  constructor
  · rintro ⟨vs, rfl, u, x, rest, rfl, hc, rfl⟩
    exact ⟨u, x, rfl, hc⟩
  · rintro ⟨x, y, rfl, hc⟩
    exact ⟨_, rfl, _, _, _, rfl, hc, rfl⟩
theorem isL_two {v : Value} : (isL [c, d]).p v w ↔ ∃ x y x' y', v = .agg #[x, y, x', y'] ∧ c.p x y w ∧ d.p x' y' w := by
  constructor
  · rintro ⟨vs, rfl, u, x, rest, rfl, hc, x', y', rest, rfl, hd, rfl⟩
    exact ⟨u, x, x', y', rfl, hc, hd⟩
  · rintro ⟨x, y, x', y', rfl, hc, hd⟩
    exact ⟨_, rfl, _, _, _, rfl, hc, _, _, _, rfl, hd, rfl⟩
end
section
variable {Q : Exit → Act → World → Prop} {o : Oper} {a : Act} {w : World} {d : Nat} {z : Int} {g off : Nat} {x y : Operand} {c c' : CP} {l : List CP}
theorem ld_I {u v : Value} (h0 : w.cell? ⟨g, off, none⟩ = some u) (h1 : w.cell? ⟨g, off + 1, none⟩ = some v) : (Instr.loadAt 24 (.pointer (some ⟨g, off, none⟩))).run Try.prog w = .ok (.agg #[u, v]) w := by
  simp [go_sem, h0, h1]
theorem op_ldI (ho : o.op = .load 24 x) (hd : o.dst = some d) (hx : a.eval x = .pointer (some ⟨g, off, none⟩)) (hc : CAt w g off c) : o.wp Try.prog a w (Post a w d (isL [c]).p) Q :=
  let ⟨u, v, h0, h1, h2⟩ := hc; op_load ho hd hx (ld_I h0 h1) (isL_one.2 ⟨u, v, rfl, h2⟩)
theorem op_ldIz (ho : o.op = .load 24 x) (hd : o.dst = some d) (hx : a.eval x = .pointer (some ⟨g, off, none⟩)) (hc : CAt w g off (zC z)) : o.wp Try.prog a w (Post a w d (isZ z).p) Q :=
  let ⟨u, v, h0, h1, A, c, e1, e2, h3⟩ := hc; op_load ho hd hx (ld_I h0 h1) ⟨A, c, by rw [e1, e2], h3⟩
theorem ld_W {u v : Value} (h0 : w.cell? ⟨g, off, none⟩ = some u) (h1 : w.cell? ⟨g, off + 1, none⟩ = some v) : (Instr.loadAt 70 (.pointer (some ⟨g, off, none⟩))).run Try.prog w = .ok (.agg #[u, v]) w := by
  simp [go_sem, h0, h1]
theorem op_ldWz (ho : o.op = .load 70 x) (hd : o.dst = some d) (hx : a.eval x = .pointer (some ⟨g, off, none⟩)) (hc : CAt w g off (zC z)) : o.wp Try.prog a w (Post a w d (isZ z).p) Q :=
  let ⟨u, v, h0, h1, A, c, e1, e2, h3⟩ := hc; op_load ho hd hx (ld_W h0 h1) ⟨A, c, by rw [e1, e2], h3⟩
theorem ld_Z {u v : Value} (h0 : w.cell? ⟨g, off, none⟩ = some u) (h1 : w.cell? ⟨g, off + 1, none⟩ = some v) : (Instr.loadAt 38 (.pointer (some ⟨g, off, none⟩))).run Try.prog w = .ok (.agg #[u, v]) w := by
  simp [go_sem, h0, h1]
theorem op_ldZz (ho : o.op = .load 38 x) (hd : o.dst = some d) (hx : a.eval x = .pointer (some ⟨g, off, none⟩)) (hc : CAt w g off (zC z)) : o.wp Try.prog a w (Post a w d (isZ z).p) Q :=
  let ⟨u, v, h0, h1, A, c, e1, e2, h3⟩ := hc; op_load ho hd hx (ld_Z h0 h1) ⟨A, c, by rw [e1, e2], h3⟩
theorem ld2_R {u v u' v' : Value} {t : TypeId} (h : Blk w g t [u, v, u', v']) : (Instr.loadAt 58 (.pointer (some ⟨g, 0, none⟩))).run Try.prog w = .ok (.agg #[u, v, u', v']) w := by
  have h0 := h.cell 0
  have h1 := h.cell 1
  have h2 := h.cell 2
  have h3 := h.cell 3
  simp at h0 h1 h2 h3
  simp [go_sem, h0, h1, h2, h3]
theorem op_ldR {t : TypeId} (ho : o.op = .load 58 x) (hd : o.dst = some d) (hx : a.eval x = .pointer (some ⟨g, 0, none⟩)) (hc : HL w g t [c, c']) : o.wp Try.prog a w (Post a w d (isL [c, c']).p) Q :=
  let ⟨u, v, u', v', hb, h1, h2⟩ := hc.two; op_load ho hd hx (ld2_R hb) (isL_two.2 ⟨u, v, u', v', rfl, h1, h2⟩)
theorem ld2_Q {u v u' v' : Value} {t : TypeId} (h : Blk w g t [u, v, u', v']) : (Instr.loadAt 103 (.pointer (some ⟨g, 0, none⟩))).run Try.prog w = .ok (.agg #[u, v, u', v']) w := by
  have h0 := h.cell 0
  have h1 := h.cell 1
  have h2 := h.cell 2
  have h3 := h.cell 3
  simp at h0 h1 h2 h3
  simp [go_sem, h0, h1, h2, h3]
theorem op_ldQ {t : TypeId} (ho : o.op = .load 103 x) (hd : o.dst = some d) (hx : a.eval x = .pointer (some ⟨g, 0, none⟩)) (hc : HL w g t [c, c']) : o.wp Try.prog a w (Post a w d (isL [c, c']).p) Q :=
  let ⟨u, v, u', v', hb, h1, h2⟩ := hc.two; op_load ho hd hx (ld2_Q hb) (isL_two.2 ⟨u, v, u', v', rfl, h1, h2⟩)
theorem ld2_S {u v u' v' : Value} {t : TypeId} (h : Blk w g t [u, v, u', v']) : (Instr.loadAt 109 (.pointer (some ⟨g, 0, none⟩))).run Try.prog w = .ok (.agg #[u, v, u', v']) w := by
  have h0 := h.cell 0
  have h1 := h.cell 1
  have h2 := h.cell 2
  have h3 := h.cell 3
  simp at h0 h1 h2 h3
  simp [go_sem, h0, h1, h2, h3]
theorem op_ldS {t : TypeId} (ho : o.op = .load 109 x) (hd : o.dst = some d) (hx : a.eval x = .pointer (some ⟨g, 0, none⟩)) (hc : HL w g t [c, c']) : o.wp Try.prog a w (Post a w d (isL [c, c']).p) Q :=
  let ⟨u, v, u', v', hb, h1, h2⟩ := hc.two; op_load ho hd hx (ld2_S hb) (isL_two.2 ⟨u, v, u', v', rfl, h1, h2⟩)
theorem ldn_n {v : Value} (h : w.cell? ⟨g, off, none⟩ = some v) : (Instr.loadAt 68 (.pointer (some ⟨g, off, none⟩))).run Try.prog w = .ok v w := by
  simp [go_sem, h]
theorem op_ldnn (ho : o.op = .load 68 x) (hd : o.dst = some d) (hx : a.eval x = .pointer (some ⟨g, off + 1, none⟩)) (hc : CAt w g off (zC z)) : o.wp Try.prog a w (Post a w d (isN z.natAbs).p) Q :=
  let ⟨u, v, h0, h1, A, c, e1, e2, h3⟩ := hc; op_load ho hd hx (ldn_n h1) ⟨A, c, e2, h3⟩
theorem ldn_w {v : Value} (h : w.cell? ⟨g, off, none⟩ = some v) : (Instr.loadAt 22 (.pointer (some ⟨g, off, none⟩))).run Try.prog w = .ok v w := by
  simp [go_sem, h]
theorem op_ldnw (ho : o.op = .load 22 x) (hd : o.dst = some d) (hx : a.eval x = .pointer (some ⟨g, off + 1, none⟩)) (hc : CAt w g off (zC z)) : o.wp Try.prog a w (Post a w d (isN z.natAbs).p) Q :=
  let ⟨u, v, h0, h1, A, c, e1, e2, h3⟩ := hc; op_load ho hd hx (ldn_w h1) ⟨A, c, e2, h3⟩
theorem ldb {v : Value} (h : w.cell? ⟨g, off, none⟩ = some v) : (Instr.loadAt 4 (.pointer (some ⟨g, off, none⟩))).run Try.prog w = .ok v w := by
  simp [go_sem, h]
theorem op_ldb (ho : o.op = .load 4 x) (hd : o.dst = some d) (hx : a.eval x = .pointer (some ⟨g, off, none⟩)) (hc : CAt w g off (zC z)) : o.wp Try.prog a w (Post a w d (isV (.bool (decide (z < 0)))).p) Q :=
  let ⟨u, v, h0, h1, A, c, e1, e2, h3⟩ := hc; op_load ho hd hx (ldb h0) e1
theorem op_faI0 (ho : o.op = .fieldAddr 24 x 0) (hx : a.eval x = .pointer (some ⟨g, off, none⟩)) (w : World) : (execOp a.eval o).run Try.prog w = .ok (.value (.pointer (some ⟨g, off + 0, none⟩))) w := by
  unfold execOp
  simp only [ho, hx]
  simp [go_sem]
theorem op_faI1 (ho : o.op = .fieldAddr 24 x 1) (hx : a.eval x = .pointer (some ⟨g, off, none⟩)) (w : World) : (execOp a.eval o).run Try.prog w = .ok (.value (.pointer (some ⟨g, off + 1, none⟩))) w := by
  unfold execOp
  simp only [ho, hx]
  simp [go_sem]
theorem op_faW0 (ho : o.op = .fieldAddr 70 x 0) (hx : a.eval x = .pointer (some ⟨g, off, none⟩)) (w : World) : (execOp a.eval o).run Try.prog w = .ok (.value (.pointer (some ⟨g, off + 0, none⟩))) w := by
  unfold execOp
  simp only [ho, hx]
  simp [go_sem]
theorem op_faW1 (ho : o.op = .fieldAddr 70 x 1) (hx : a.eval x = .pointer (some ⟨g, off, none⟩)) (w : World) : (execOp a.eval o).run Try.prog w = .ok (.value (.pointer (some ⟨g, off + 1, none⟩))) w := by
  unfold execOp
  simp only [ho, hx]
  simp [go_sem]
theorem op_faZ0 (ho : o.op = .fieldAddr 38 x 0) (hx : a.eval x = .pointer (some ⟨g, off, none⟩)) (w : World) : (execOp a.eval o).run Try.prog w = .ok (.value (.pointer (some ⟨g, off + 0, none⟩))) w := by
  unfold execOp
  simp only [ho, hx]
  simp [go_sem]
theorem op_faR0 (ho : o.op = .fieldAddr 58 x 0) (hx : a.eval x = .pointer (some ⟨g, off, none⟩)) (w : World) : (execOp a.eval o).run Try.prog w = .ok (.value (.pointer (some ⟨g, off + 0, none⟩))) w := by
  unfold execOp
  simp only [ho, hx]
  simp [go_sem]
theorem op_faR1 (ho : o.op = .fieldAddr 58 x 1) (hx : a.eval x = .pointer (some ⟨g, off, none⟩)) (w : World) : (execOp a.eval o).run Try.prog w = .ok (.value (.pointer (some ⟨g, off + 2, none⟩))) w := by
  unfold execOp
  simp only [ho, hx]
  simp [go_sem]
theorem op_faQ0 (ho : o.op = .fieldAddr 103 x 0) (hx : a.eval x = .pointer (some ⟨g, off, none⟩)) (w : World) : (execOp a.eval o).run Try.prog w = .ok (.value (.pointer (some ⟨g, off + 0, none⟩))) w := by
  unfold execOp
  simp only [ho, hx]
  simp [go_sem]
theorem op_faQ1 (ho : o.op = .fieldAddr 103 x 1) (hx : a.eval x = .pointer (some ⟨g, off, none⟩)) (w : World) : (execOp a.eval o).run Try.prog w = .ok (.value (.pointer (some ⟨g, off + 2, none⟩))) w := by
  unfold execOp
  simp only [ho, hx]
  simp [go_sem]
theorem op_faS0 (ho : o.op = .fieldAddr 109 x 0) (hx : a.eval x = .pointer (some ⟨g, off, none⟩)) (w : World) : (execOp a.eval o).run Try.prog w = .ok (.value (.pointer (some ⟨g, off + 0, none⟩))) w := by
  unfold execOp
  simp only [ho, hx]
  simp [go_sem]
theorem op_faS1 (ho : o.op = .fieldAddr 109 x 1) (hx : a.eval x = .pointer (some ⟨g, off, none⟩)) (w : World) : (execOp a.eval o).run Try.prog w = .ok (.value (.pointer (some ⟨g, off + 2, none⟩))) w := by
  unfold execOp
  simp only [ho, hx]
  simp [go_sem]
theorem op_bdR {y0 y1 : Operand} (ho : o.op = .build 58 #[(0, y0), (1, y1)]) (h0 : (isL [c]).p (a.eval y0) w) (h1 : (isL [c']).p (a.eval y1) w) : ∃ v, (∀ w, (execOp a.eval o).run Try.prog w = .ok (.value v) w) ∧ (isL [c, c']).p v w := by
  obtain ⟨u, v, e0, k0⟩ := isL_one.1 h0
  obtain ⟨u', v', e1, k1⟩ := isL_one.1 h1
  refine ⟨.agg #[u, v, u', v'], fun w => ?_, isL_two.2 ⟨u, v, u', v', rfl, k0, k1⟩⟩
  generalize a.eval = ev at e0 e1 ⊢
  unfold execOp
  simp only [ho]
  simp [go_sem, e0, e1]
theorem op_bdQ {y0 y1 : Operand} (ho : o.op = .build 103 #[(0, y0), (1, y1)]) (h0 : (isL [c]).p (a.eval y0) w) (h1 : (isL [c']).p (a.eval y1) w) : ∃ v, (∀ w, (execOp a.eval o).run Try.prog w = .ok (.value v) w) ∧ (isL [c, c']).p v w := by
  obtain ⟨u, v, e0, k0⟩ := isL_one.1 h0
  obtain ⟨u', v', e1, k1⟩ := isL_one.1 h1
  refine ⟨.agg #[u, v, u', v'], fun w => ?_, isL_two.2 ⟨u, v, u', v', rfl, k0, k1⟩⟩
  generalize a.eval = ev at e0 e1 ⊢
  unfold execOp
  simp only [ho]
  simp [go_sem, e0, e1]
theorem op_bdS {y0 y1 : Operand} (ho : o.op = .build 109 #[(0, y0), (1, y1)]) (h0 : (isL [c]).p (a.eval y0) w) (h1 : (isL [c']).p (a.eval y1) w) : ∃ v, (∀ w, (execOp a.eval o).run Try.prog w = .ok (.value v) w) ∧ (isL [c, c']).p v w := by
  obtain ⟨u, v, e0, k0⟩ := isL_one.1 h0
  obtain ⟨u', v', e1, k1⟩ := isL_one.1 h1
  refine ⟨.agg #[u, v, u', v'], fun w => ?_, isL_two.2 ⟨u, v, u', v', rfl, k0, k1⟩⟩
  generalize a.eval = ev at e0 e1 ⊢
  unfold execOp
  simp only [ho]
  simp [go_sem, e0, e1]
theorem op_bdW {y1 : Operand} {n : Nat} (ho : o.op = .build 70 #[(0, .const (.bool false)), (1, y1)]) (h1 : (isN n).p (a.eval y1) w) : ∃ v, (∀ w, (execOp a.eval o).run Try.prog w = .ok (.value v) w) ∧ (isZ (n : Int)).p v w := by
  obtain ⟨A, c, e1, k1⟩ := h1
  refine ⟨.agg #[.bool false, .slice A (ln n) c], fun w => ?_, A, c, by rw [decide_eq_false (by omega), Int.natAbs_natCast], by rw [Int.natAbs_natCast]; exact k1⟩
  have hc : a.eval (.const (.bool false)) = .bool false := rfl
  generalize a.eval = ev at e1 hc ⊢
  unfold execOp
  simp only [ho]
  simp [go_sem, e1, hc]
end
section
variable {w W : World} {t1 t2 t3 t4 : TypeId} {l1 l2 l3 l4 : List CP} {v1 v2 v3 v4 : List Value}
theorem hl_new (h : cellsP l1 v1 w) : HL (w.alloc (.cells v1.toArray t1)) w.heap.size t1 l1 := ⟨v1, heap_alloc_new _ _, cellsP_st _ _ _ _ h (below_alloc (Below.refl _ _) _)⟩
theorem env_one (h : cellsP l1 v1 w) (e : W = w.alloc (.cells v1.toArray t1)) : Env W [⟨w.heap.size, t1, l1⟩] ∧ Below w.heap.size w W := by
  subst e
  exact ⟨⟨hl_new h, (fun e' h => by cases h), trivial⟩, below_alloc (Below.refl _ _) _⟩
theorem env_more {L : List Ent} (k : Env w L) (h : cellsP l1 v1 w) : Env (w.alloc (.cells v1.toArray t1)) (L ++ [⟨w.heap.size, t1, l1⟩]) :=
  k.new (below_alloc (Below.refl _ _) _) (Nat.le_refl _) (hl_new h)
theorem env_two (h1 : cellsP l1 v1 w) (h2 : cellsP l2 v2 w) (e : W = (w.alloc (.cells v1.toArray t1)).alloc (.cells v2.toArray t2)) :
    Env W [⟨w.heap.size, t1, l1⟩, ⟨w.heap.size + 1, t2, l2⟩] ∧ Below w.heap.size w W := by
  subst e
  have a1 := env_one h1 (t1 := t1) rfl
  have a2 := env_more (t1 := t2) a1.1 (cellsP_st _ _ _ _ h2 a1.2)
  rw [show (w.alloc (.cells v1.toArray t1)).heap.size = w.heap.size + 1 by simp] at a2
  exact ⟨a2, below_alloc a1.2 _⟩
theorem env_three (h1 : cellsP l1 v1 w) (h2 : cellsP l2 v2 w) (h3 : cellsP l3 v3 w) (e : W = ((w.alloc (.cells v1.toArray t1)).alloc (.cells v2.toArray t2)).alloc (.cells v3.toArray t3)) :
    Env W [⟨w.heap.size, t1, l1⟩, ⟨w.heap.size + 1, t2, l2⟩, ⟨w.heap.size + 1 + 1, t3, l3⟩] ∧ Below w.heap.size w W := by
  subst e
  have a2 := env_two h1 h2 (t1 := t1) (t2 := t2) rfl
  have a3 := env_more (t1 := t3) a2.1 (cellsP_st _ _ _ _ h3 a2.2)
  rw [show ((w.alloc (.cells v1.toArray t1)).alloc (.cells v2.toArray t2)).heap.size = w.heap.size + 1 + 1 by simp] at a3
  exact ⟨a3, below_alloc a2.2 _⟩
theorem cp1 {c : CP} {x y : Value} {w : World} (h : c.p x y w) : cellsP [c] [x, y] w := ⟨x, y, _, rfl, h, rfl⟩
theorem cp2 {c d : CP} {x y x' y' : Value} {w : World} (h : c.p x y w) (h' : d.p x' y' w) : cellsP [c, d] [x, y, x', y'] w := ⟨x, y, _, rfl, h, x', y', _, rfl, h', rfl⟩
theorem cpz (w : World) : aC.p (.bool false) (.slice none 0 0) w := ⟨_, _, _, _, rfl, rfl⟩
theorem cp0 (w : World) : (zC 0).p (.bool false) (.slice none 0 0) w := ⟨none, 0, rfl, by rw [show Int.natAbs 0 = 0 from rfl, ln_zero], NN.nil _ _ _ (by omega)⟩
end
end Go.Proofs.Ytcjcpfafalkceaa
