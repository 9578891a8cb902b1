/- Regions in the text's order: each operation once, as in the regions that draw their order. -/
import Derived.Test.YtddbmckbankmeaaPk
set_option linter.unusedVariables false
set_option linter.unusedSimpArgs false
namespace Go.Proofs.Ytddbmckbankmeaa
open Go.RowKit
/-- What the operations before have left. -/
def DepsD (ds AL : List Nat) (V : Nat → Value → World → Prop) (i : Nat) (a : Act) (w : World) : Prop :=
  ∀ j, (decide (j < i) && !AL.contains j) = true → V j (a.eval (.tmp (ds.getD j 0))) w
theorem wp_region_vd {id : Nat} {l : List Oper} {a0 : Act} {w0 : World} {Q : Exit → Act → World → Prop} (n1 : Nat) (ds E AL : List Nat) (T : TypeId) (z : List Value) (Vs : List SP)
    (hD : VarG l n1 ds E AL T a0.tmps.size = true)
    (hz : ∀ w : World, (Instr.alloc T true (.tuple #[])).run Try.prog w = .ok (.pointer (some ⟨w.heap.size, 0, none⟩)) (w.alloc (.cells z.toArray T)))
    (hop : ∀ i, i < n1 → AL.contains i = false → ∀ a w, Below w0.heap.size w0 w → (∀ t, ds.contains t = false → a.eval (.tmp t) = a0.eval (.tmp t)) → DepsD ds AL (vp Vs) i a w →
      match l[i]? with | none => True | some o => (WantG l ds o a true ∧ if E.contains i then ∃ v, (∀ w, (execOp a.eval o).run Try.prog w = .ok (.value v) w) ∧ vp Vs i v w else o.wp Try.prog a w (Post a w (ds.getD i 0) (vp Vs i)) Q) ∨ (WantG l ds o a false ∧ vp Vs i undef w))
    (hend : ∀ (vs : Nat → Value) (w : World), Below w0.heap.size w0 w → (∀ i, i < n1 → AL.contains i = false → vp Vs i (vs (ds.getD i 0)) w) →
      (∀ i, AL.contains i = true → ∃ g, vs (ds.getD i 0) = .pointer (some ⟨g, 0, none⟩) ∧ w0.heap.size ≤ g ∧ Blk w g T z) → (∀ i j, AL.contains i = true → AL.contains j = true → i ≠ j → vs (ds.getD i 0) ≠ vs (ds.getD j 0)) → wpList Try.prog l.toArray Q (l.drop n1) (putAll a0 ds vs) w) :
    (Code.region id l.toArray false).wp Try.prog Q a0 w0 := by
  unfold VarG at hD
  simp only [Bool.and_eq_true, decide_eq_true_eq, List.all_eq_true, List.mem_range] at hD
  obtain ⟨⟨⟨⟨⟨⟨hdl, hnl⟩, hdt⟩, hnd⟩, hEE⟩, hAA⟩, hops⟩ := hD
  have hop1 : ∀ i, i < n1 → ∃ o, l[i]? = some o ∧ o.dst = some (ds.getD i 0) ∧ (AL.contains i = true → o.guard = none) ∧ (AL.contains i = true → o.op = .alloc T) := by
    intro i hi
    have h := hops i hi
    cases ho : l[i]? with
    | none => rw [ho] at h; cases h
    | some o =>
      rw [ho] at h
      simp only [Bool.and_eq_true, decide_eq_true_eq, Bool.or_eq_true, Bool.not_eq_true', Option.isNone_iff_eq_none] at h
      refine ⟨o, rfl, h.1.1, fun hA => h.1.2.elim (fun h3 => by rw [hA] at h3; cases h3) (fun h3 => h3), fun hA => ?_⟩
      rcases h.2 with h2 | h2
      · rw [hA] at h2; cases h2
      · revert h2
        cases o.op <;> simp
  have hdi : ∀ i, i < n1 → ds.getD i 0 < a0.tmps.size := by
    intro i hi
    have : ds.getD i 0 ∈ ds := by
      rw [List.getD_eq_getElem?_getD, List.getElem?_eq_getElem (by omega)]
      exact List.getElem_mem _
    exact hdt _ this
  let V : Nat → Value → World → Prop := vp Vs
  have hV : ∀ i v w w', V i v w → Below w.heap.size w w' → V i v w' := fun i v w w' h hb => (Vs.getD i SP.any).st v w w' h hb
  let F : Nat → Value → World → Prop := fun i v w => if AL.contains i then ∃ g, v = .pointer (some ⟨g, 0, none⟩) ∧ w0.heap.size ≤ g ∧ Blk w g T z else V i v w
  have hFs : ∀ i v w w', F i v w → Below w.heap.size w w' → F i v w' := by
    intro i v w w' h hb
    show if _ then _ else _
    have h' : if _ then _ else _ := h
    split at h'
    · next hA =>
      rw [if_pos hA]
      obtain ⟨g, h1, h2, h3⟩ := h'
      exact ⟨g, h1, h2, h3.to hb⟩
    · next hA => rw [if_neg hA]; exact hV _ _ _ _ h' hb
  let I : Nat → Act → World → Prop := fun k a w => Below w0.heap.size w0 w ∧ a.defers = a0.defers ∧ a.tmps.size = a0.tmps.size ∧ (∀ t, t ∉ ds → a0.tmps[t]? = a.tmps[t]?) ∧
    (∀ i, i < n1 → i < k → F i (a.eval (.tmp (ds.getD i 0))) w) ∧
    (∀ i j, AL.contains i = true → AL.contains j = true → i ≠ j → i < k → j < k → a.eval (.tmp (ds.getD i 0)) ≠ a.eval (.tmp (ds.getD j 0)))
  have hAlt : ∀ i, AL.contains i = true → i < n1 := fun i h => hAA i (by simpa using h)
  have key : ∀ a w i v w', I i a w → i < n1 → Below w.heap.size w w' → F i v w' → (AL.contains i = true → ∀ j, AL.contains j = true → i ≠ j → j < i → v ≠ a.eval (.tmp (ds.getD j 0))) → I (i + 1) (a.put (some (ds.getD i 0)) v) w' := by
    intro a w i v w' ⟨hb, hdf, hts, hot, hf, hne⟩ hi hb' hv hd
    refine ⟨below_then hb hb.size hb', hdf, by simp [Act.put, hts], fun t ht => ?_, fun j hj hL => ?_, fun j k hj hk hjk hLj hLk => ?_⟩
    · have : ds.getD i 0 ≠ t := fun e => ht (by rw [← e, List.getD_eq_getElem?_getD, List.getElem?_eq_getElem (by omega)]; exact List.getElem_mem _)
      show _ = (a.tmps.setIfInBounds _ _)[t]?
      rw [Array.getElem?_setIfInBounds_ne this]
      exact hot t ht
    · by_cases hij : j = i
      · subst hij
        rw [eval_put_same (by rw [hts]; exact hdi _ hi)]
        exact hv
      · rw [eval_put_other (nodup_ne hnd (by omega) (by omega) (Ne.symm hij))]
        exact hFs _ _ _ _ (hf j hj (by omega)) hb'
    · have hjn := hAlt j hj
      have hkn := hAlt k hk
      by_cases hji : j = i
      · subst hji
        rw [eval_put_same (by rw [hts]; exact hdi _ hi), eval_put_other (nodup_ne hnd (by omega) (by omega) hjk)]
        exact hd hj k hk hjk (by omega)
      · by_cases hki : k = i
        · subst hki
          rw [eval_put_same (by rw [hts]; exact hdi _ hi), eval_put_other (nodup_ne hnd (by omega) (by omega) (Ne.symm hji))]
          exact Ne.symm (hd hk j hj (Ne.symm hjk) (by omega))
        · rw [eval_put_other (nodup_ne hnd (by omega) (by omega) (Ne.symm hji)), eval_put_other (nodup_ne hnd (by omega) (by omega) (Ne.symm hki))]
          exact hne j k hj hk hjk (by omega) (by omega)
  have main : ∀ m k, m + k = n1 → ∀ a w, I k a w → wpList Try.prog l.toArray Q (l.drop k) a w := by
    intro m
    induction m with
    | zero =>
      intro k hk a w ⟨hb, hdf, hts, hot, hf, hne⟩
      have hk1 : k = n1 := by omega
      subst hk1
      have he := putAll_eq (a := a) ds a0 hdf.symm hts.symm (fun d hd => by rw [hts]; exact hdt d hd) hot
      rw [← he]
      refine hend (fun t => a.eval (.tmp t)) w hb (fun i hi hA => ?_) (fun i hA => ?_) (fun i j hi hj hij => hne i j hi hj hij (hAlt i hi) (hAlt j hj))
      · have h3 : if AL.contains i then _ else _ := hf i hi hi
        rw [if_neg (by rw [hA]; simp)] at h3
        exact h3
      · have h3 : if AL.contains i then _ else _ := hf i (hAlt i hA) (hAlt i hA)
        rw [if_pos hA] at h3
        exact h3
    | succ m ih =>
      intro i hk a w hI
      have hi : i < n1 := by omega
      obtain ⟨o, ho, hdst, hg, hal⟩ := hop1 i hi
      have hcons : l.drop i = o :: l.drop (i + 1) := by
        have hlt : i < l.length := by omega
        rw [List.getElem?_eq_getElem hlt] at ho
        rw [← Option.some.inj ho]
        exact (List.getElem_cons_drop (h := hlt)).symm
      have next : ∀ a w, I (i + 1) a w → wpList Try.prog l.toArray Q (l.drop (i + 1)) a w := ih (i + 1) (by omega)
      rw [hcons]
      unfold wpList
      by_cases hA : AL.contains i = true
      · rw [if_pos (by simp [Region.wanted, hg hA])]
        refine .inl ?_
        unfold Oper.wp execOp
        simp only [hal hA, Sem.run_bind, hz, Result.andThen_ok, Sem.run_pure, Oper.upon, hdst]
        refine next _ _ (key a w i _ _ hI hi (below_alloc (Below.refl _ _) _) ?_ ?_)
        · show if _ then _ else _
          rw [if_pos hA]
          exact ⟨_, rfl, hI.1.size, heap_alloc_new _ _⟩
        · intro _ j hj hij hL
          have h3 : if AL.contains j then _ else _ := hI.2.2.2.2.1 j (hAlt j hj) hL
          rw [if_pos hj] at h3
          obtain ⟨g, hg1, _, hg2⟩ := h3
          rw [hg1]
          intro he
          have := hg2.lt
          injection he with he
          injection he with he
          injection he with he
          omega
      · have hA' : AL.contains i = false := by simpa using hA
        have hI2 := hI
        obtain ⟨hb, hdf, hts, hot, hf, hne⟩ := hI2
        have h3 := hop i hi hA' a w hb (fun t ht => by
          have := hot t (by simpa using ht)
          show a.tmps.getD t undef = a0.tmps.getD t undef
          simp only [Array.getD_eq_getD_getElem?, this]) (fun j hj => by
          simp only [Bool.and_eq_true, decide_eq_true_eq, Bool.not_eq_true'] at hj
          have h1 : if AL.contains j then _ else _ := hf j (by omega) hj.1
          rw [if_neg (by rw [hj.2]; simp)] at h1
          exact h1)
        rw [ho] at h3
        simp only at h3
        rcases h3 with ⟨hw, h3⟩ | ⟨hw, hv⟩
        · rw [if_pos hw.wanted]
          refine .inl ?_
          by_cases hE : E.contains i = true
          · rw [if_pos hE] at h3
            obtain ⟨v, hy, hv⟩ := h3
            unfold Oper.wp
            rw [hy]
            show wpList _ _ _ _ (a.put o.dst v) w
            rw [hdst]
            exact next _ _ (key a w i v w hI hi (Below.refl _ _) (by show if _ then _ else _; rw [if_neg hA]; exact hv) (fun h => absurd h hA))
          · rw [if_neg hE] at h3
            refine Oper.wp_mono (fun a' w' h => ?_) h3
            obtain ⟨v, rfl, hb', hv⟩ := h
            exact next _ _ (key a w i v w' hI hi hb' (by show if _ then _ else _; rw [if_neg hA]; exact hv) (fun h => absurd h hA))
        · rw [if_neg (by rw [hw.wanted]; simp), hdst]
          exact next _ _ (key a w i undef w hI hi (Below.refl _ _) (by show if _ then _ else _; rw [if_neg hA]; exact hv) (fun h => absurd h hA))
  refine wp_region_lit ?_
  have h0 := main n1 0 (by omega) a0 w0 ⟨Below.refl _ _, rfl, rfl, fun _ _ => rfl, fun i _ h => absurd h (by omega), fun i j _ _ _ h _ => absurd h (by omega)⟩
  rwa [List.drop_zero] at h0
/-- A guard that is met, or none. -/
theorem want_none {l : List Oper} {ds : List Nat} {o : Oper} {a : Act} (h : o.guard = none) : WantG l ds o a true := by
  unfold WantG
  rw [h]
end Go.Proofs.Ytddbmckbankmeaa
