/- Regions that draw their order, with guarded operations. -/
import Derived.Test.YtddbmckbankmeaaPi
set_option linter.unusedVariables false
set_option linter.unusedSimpArgs false
namespace Go.Proofs.Ytddbmckbankmeaa
open Go.RowKit
def VarG (l : List Oper) (n1 : Nat) (ds E AL : List Nat) (T : TypeId) (n : Nat) : Bool :=
  decide (ds.length = n1) && decide (n1 ≤ l.length) && ds.all (fun d => decide (d < n)) && decide ds.Nodup && E.all (fun i => decide (i < n1) && !AL.contains i) && AL.all (fun i => decide (i < n1)) &&
  (List.range n1).all (fun i => match l[i]? with | none => false | some o => decide (o.dst = some (ds.getD i 0)) && (!AL.contains i || o.guard.isNone) && (!AL.contains i || match o.op with | .alloc t => t == T | _ => false))
/-- Whether a guarded operation is run (its test's slot may be unfilled: then it is not). -/
def WantG (l : List Oper) (ds : List Nat) (o : Oper) (a : Act) (t : Bool) : Prop :=
  match o.guard with
  | none => t = true
  | some (j, b) => ((l[j]?).bind (·.dst)) = some (ds.getD j 0) ∧ (a.eval (.tmp (ds.getD j 0)) = .bool (if t then b else !b) ∨ (t = false ∧ a.eval (.tmp (ds.getD j 0)) = undef))
theorem WantG.wanted {l : List Oper} {ds : List Nat} {o : Oper} {a : Act} {t : Bool} (h : WantG l ds o a t) : Region.wanted o (yielded l.toArray a.tmps) = t := by
  unfold WantG at h
  unfold Region.wanted
  split at h
  · next hg => rw [hg]; exact h.symm
  · next j b hg =>
    rw [hg]
    simp only
    obtain ⟨h1, h2⟩ := h
    rcases h2 with h2 | ⟨rfl, h2⟩
    · have h3 : a.tmps.getD (ds.getD j 0) undef = .bool (if t then b else !b) := h2
      have h4 : a.tmps[ds.getD j 0]? = some (.bool (if t then b else !b)) := by
        rw [Array.getD_eq_getD_getElem?] at h3
        cases h : a.tmps[ds.getD j 0]? with
        | none => rw [h] at h3; simp [undef] at h3
        | some v => rw [h] at h3; simp at h3; rw [h3]
      have h5 : yielded l.toArray a.tmps j = some (if t then b else !b) := by
        unfold yielded
        rw [List.getElem?_toArray, h1]
        simp only [Option.bind_some, h4]
      rw [h5]
      cases t <;> cases b <;> rfl
    · have h3 : a.tmps.getD (ds.getD j 0) undef = undef := h2
      have h5 : yielded l.toArray a.tmps j = none := by
        unfold yielded
        rw [List.getElem?_toArray, h1]
        simp only [Option.bind_some]
        cases h : a.tmps[ds.getD j 0]? with
        | none => rfl
        | some v =>
          rw [Array.getD_eq_getD_getElem?, h] at h3
          simp at h3
          rw [h3]
          rfl
      rw [h5]
      rfl
section
variable {P : Program} {Q : Exit → Act → World → Prop}
theorem wp_region_varg {id : Nat} (n1 : Nat) {l : List Oper} {a0 : Act} {w0 : World} (ds E AL : List Nat) (T : TypeId) (z : List Value) (V : Nat → Value → World → Prop) (C : Nat → World → Prop)
    (hm : P.follows .mixedOrders = true) (hns : Region.noSelect l.toArray = true) (hB : phaseB l.toArray n1 E = true) (hF : freeB l.toArray E = true) (hD : VarG l n1 ds E AL T a0.tmps.size = true)
    (hCt : ∀ i ∈ E, ∀ j ∈ E, j ∈ edgesOf l.toArray i → ∀ w, C j w) (hC0 : ∀ i ∈ E, ∀ w, Below w0.heap.size w0 w → C i w)
    (hz : ∀ w : World, (Instr.alloc T true (.tuple #[])).run P w = .ok (.pointer (some ⟨w.heap.size, 0, none⟩)) (w.alloc (.cells z.toArray T)))
    (hQ : ∀ d v c a w, Q (.panic c) (a.put d v) w → Q (.panic c) a w)
    (hV : ∀ i v w w', V i v w → Below w.heap.size w w' → V i v w')
    (hop : ∀ i, i < n1 → AL.contains i = false → ∀ a w, Below w0.heap.size w0 w → (∀ t, ds.contains t = false → a.eval (.tmp t) = a0.eval (.tmp t)) → Deps l ds AL V i a w →
      match l[i]? with | none => True | some o => (WantG l ds o a true ∧ if E.contains i then ∃ v, (∀ w, C i w → (execOp a.eval o).run P w = .ok (.value v) w) ∧ V i v w else o.wp P a w (Post a w (ds.getD i 0) (V i)) Q) ∨ (WantG l ds o a false ∧ V i undef w))
    (hend : ∀ (vs : Nat → Value) (w : World), Below w0.heap.size w0 w → (∀ i, i < n1 → AL.contains i = false → V i (vs (ds.getD i 0)) w) →
      (∀ i, AL.contains i = true → ∃ g, vs (ds.getD i 0) = .pointer (some ⟨g, 0, none⟩) ∧ w0.heap.size ≤ g ∧ Blk w g T z) → (∀ i j, AL.contains i = true → AL.contains j = true → i ≠ j → vs (ds.getD i 0) ≠ vs (ds.getD j 0)) → wpListS P l.toArray Q E C n1 (l.drop n1) (putAll a0 ds vs) w) :
    (Code.region id l.toArray true).wp P Q a0 w0 := by
  unfold VarG at hD
  simp only [Bool.and_eq_true, decide_eq_true_eq, List.all_eq_true, List.mem_range] at hD
  obtain ⟨⟨⟨⟨⟨⟨hdl, hnl⟩, hdt⟩, hnd⟩, hEE⟩, hAA⟩, hops⟩ := hD
  have hop1 : ∀ i, i < n1 → ∃ o, l[i]? = some o ∧ o.dst = some (ds.getD i 0) ∧ (AL.contains i = true → o.guard = none) ∧ (AL.contains i = true → o.op = .alloc T) := by
    intro i hi
    have h := hops i hi
    cases ho : l[i]? with
    | none => rw [ho] at h; cases h
    | some o =>
      rw [ho] at h
      simp only [Bool.and_eq_true, decide_eq_true_eq, Bool.or_eq_true, Bool.not_eq_true', Option.isNone_iff_eq_none] at h
      refine ⟨o, rfl, h.1.1, fun hA => h.1.2.elim (fun h3 => by rw [hA] at h3; cases h3) (fun h3 => h3), fun hA => ?_⟩
      rcases h.2 with h2 | h2
      · rw [hA] at h2; cases h2
      · revert h2
        cases o.op <;> simp
  have hdi : ∀ i, i < n1 → ds.getD i 0 < a0.tmps.size := by
    intro i hi
    have : ds.getD i 0 ∈ ds := by
      rw [List.getD_eq_getElem?_getD, List.getElem?_eq_getElem (by omega)]
      exact List.getElem_mem _
    exact hdt _ this
  let F : Nat → Value → World → Prop := fun i v w => if AL.contains i then ∃ g, v = .pointer (some ⟨g, 0, none⟩) ∧ w0.heap.size ≤ g ∧ Blk w g T z else V i v w
  have hFs : ∀ i v w w', F i v w → Below w.heap.size w w' → F i v w' := by
    intro i v w w' h hb
    show if _ then _ else _
    have h' : if _ then _ else _ := h
    split at h'
    · next hA =>
      rw [if_pos hA]
      obtain ⟨g, h1, h2, h3⟩ := h'
      exact ⟨g, h1, h2, h3.to hb⟩
    · next hA => rw [if_neg hA]; exact hV _ _ _ _ h' hb
  let I : Array Bool → Act → World → Prop := fun L a w => Below w0.heap.size w0 w ∧ L.size = l.length ∧ a.defers = a0.defers ∧ a.tmps.size = a0.tmps.size ∧ (∀ t, t ∉ ds → a0.tmps[t]? = a.tmps[t]?) ∧
    (∀ i, i < n1 → L.getD i false = true → F i (a.eval (.tmp (ds.getD i 0))) w) ∧
    (∀ i j, AL.contains i = true → AL.contains j = true → i ≠ j → L.getD i false = true → L.getD j false = true → a.eval (.tmp (ds.getD i 0)) ≠ a.eval (.tmp (ds.getD j 0)))
  have hAlt : ∀ i, AL.contains i = true → i < n1 := fun i h => hAA i (by simpa using h)
  -- an operation that is no new variable
  have key : ∀ L a w i v w', I L a w → i < n1 → Below w.heap.size w w' → F i v w' → (AL.contains i = true → ∀ j, AL.contains j = true → i ≠ j → L.getD j false = true → v ≠ a.eval (.tmp (ds.getD j 0))) → I (L.setIfInBounds i true) (a.put (some (ds.getD i 0)) v) w' := by
    intro L a w i v w' ⟨hb, hsz, hdf, hts, hot, hf, hne⟩ hi hb' hv hd
    refine ⟨below_then hb hb.size hb', by simp [hsz], hdf, by simp [Act.put, hts], fun t ht => ?_, fun j hj hL => ?_, fun j k hj hk hjk hLj hLk => ?_⟩
    · have : ds.getD i 0 ≠ t := fun e => ht (by rw [← e, List.getD_eq_getElem?_getD, List.getElem?_eq_getElem (by omega)]; exact List.getElem_mem _)
      show _ = (a.tmps.setIfInBounds _ _)[t]?
      rw [Array.getElem?_setIfInBounds_ne this]
      exact hot t ht
    · by_cases hij : j = i
      · subst hij
        rw [eval_put_same (by rw [hts]; exact hdi _ hi)]
        exact hv
      · rw [eval_put_other (nodup_ne hnd (by omega) (by omega) (Ne.symm hij))]
        rw [set_getD _ (by omega), if_neg hij] at hL
        exact hFs _ _ _ _ (hf j hj hL) hb'
    · have hjn := hAlt j hj
      have hkn := hAlt k hk
      by_cases hji : j = i
      · subst hji
        rw [eval_put_same (by rw [hts]; exact hdi _ hi), eval_put_other (nodup_ne hnd (by omega) (by omega) hjk)]
        rw [set_getD _ (by omega), if_neg (Ne.symm hjk)] at hLk
        exact hd hj k hk hjk hLk
      · by_cases hki : k = i
        · subst hki
          rw [eval_put_same (by rw [hts]; exact hdi _ hi), eval_put_other (nodup_ne hnd (by omega) (by omega) (Ne.symm hji))]
          rw [set_getD _ (by omega), if_neg hji] at hLj
          exact Ne.symm (hd hk j hj (Ne.symm hjk) hLj)
        · rw [eval_put_other (nodup_ne hnd (by omega) (by omega) (Ne.symm hji)), eval_put_other (nodup_ne hnd (by omega) (by omega) (Ne.symm hki))]
          rw [set_getD _ (by omega), if_neg hji] at hLj
          rw [set_getD _ (by omega), if_neg hki] at hLk
          exact hne j k hj hk hjk hLj hLk
  have hpre : ∀ L a w i o, I L a w → i < n1 → i ∈ Region.ready .any l.toArray L → l[i]? = some o → (∀ t, ds.contains t = false → a.eval (.tmp t) = a0.eval (.tmp t)) ∧ Deps l ds AL V i a w := by
    intro L a w i o ⟨hb, hsz, hdf, hts, hot, hf, hne⟩ hi hr ho
    obtain ⟨_, o', ho', hall⟩ := mem_ready.1 hr
    have : o' = o := by simpa [ho] using ho'.symm
    subst this
    refine ⟨fun t ht => ?_, fun j hj => ?_⟩
    · have := hot t (by simpa using ht)
      show a.tmps.getD t undef = a0.tmps.getD t undef
      simp only [Array.getD_eq_getD_getElem?, this]
    · rw [ho] at hj
      simp only [Option.map_some, Option.getD_some, Bool.and_eq_true, Bool.not_eq_true', List.any_eq_true, decide_eq_true_eq] at hj
      obtain ⟨⟨e, he, hbd, heq⟩, hA⟩ := hj
      have hj1 : j < i := by rw [← heq]; exact (phaseB_back hB ho').1 e (by simpa using he) hbd
      have h1 := hf j (by omega) (by rw [← heq]; exact hall e (by simpa using he) hbd)
      have h2 : if AL.contains j then _ else _ := h1
      rw [if_neg (by rw [hA]; simp)] at h2
      exact h2
  refine wp_region_phase (n1 := n1) E C hm hns hB hF (fun i hi => by have := hEE i hi; simp at this; exact this.1) hCt hnl hQ I ?_ (fun L a w h i hi => hC0 i hi w h.1) ?_ ?_ ?_
  · refine ⟨below_drew (Below.refl _ _), by simp, rfl, rfl, fun _ _ => rfl, fun i hi hL => ?_, fun i j _ _ _ hL _ => ?_⟩
    · rw [rep_getD] at hL; cases hL
    · rw [rep_getD] at hL; cases hL
  · intro L a w i o hI hi hr ho
    have hEi := hEE i hi
    simp only [Bool.and_eq_true, decide_eq_true_eq, Bool.not_eq_true'] at hEi
    obtain ⟨h1, h2⟩ := hpre L a w i o hI hEi.1 hr ho
    have h3 := hop i hEi.1 hEi.2 a w hI.1 h1 h2
    rw [ho] at h3
    simp only at h3
    rw [if_pos (by simpa using hi)] at h3
    obtain ⟨o', ho', hdst, hg, _⟩ := hop1 i hEi.1
    have : o' = o := by rw [ho] at ho'; exact (Option.some.inj ho').symm
    subst this
    rcases h3 with ⟨hw, v, hy, hv⟩ | ⟨hw, hv⟩
    · refine ⟨v, .inl ⟨hw.wanted, hy⟩, ?_⟩
      rw [hdst]
      exact key L a w i v w hI hEi.1 (Below.refl _ _) (by show if _ then _ else _; rw [if_neg (by rw [hEi.2]; simp)]; exact hv) (fun h => by rw [hEi.2] at h; cases h)
    · refine ⟨undef, .inr ⟨hw.wanted, rfl⟩, ?_⟩
      rw [hdst]
      exact key L a w i undef w hI hEi.1 (Below.refl _ _) (by show if _ then _ else _; rw [if_neg (by rw [hEi.2]; simp)]; exact hv) (fun h => by rw [hEi.2] at h; cases h)
  · intro L a w i hI hi hE hr
    obtain ⟨o, ho, hdst, hg, hal⟩ := hop1 i hi
    obtain ⟨h1, h2⟩ := hpre L a w i o hI hi hr ho
    unfold wpOp
    have ho2 : l.toArray[i]? = some o := by simpa using ho
    rw [ho2]
    simp only
    by_cases hA : AL.contains i = true
    · rw [if_pos (by simp [Region.wanted, hg hA])]
      refine .inl ?_
      unfold Oper.wp execOp
      simp only [hal hA, Sem.run_bind, hz, Result.andThen_ok, Sem.run_pure, Oper.upon, hdst]
      refine key L a w i _ _ hI hi (below_alloc (Below.refl _ _) _) ?_ ?_
      · show if _ then _ else _
        rw [if_pos hA]
        exact ⟨_, rfl, hI.1.size, heap_alloc_new _ _⟩
      · intro _ j hj hij hL
        have h3 : if AL.contains j then _ else _ := hI.2.2.2.2.2.1 j (hAlt j hj) hL
        rw [if_pos hj] at h3
        obtain ⟨g, hg1, _, hg2⟩ := h3
        rw [hg1]
        intro he
        have := hg2.lt
        injection he with he
        injection he with he
        injection he with he
        omega
    · have hA' : AL.contains i = false := by simpa using hA
      have h3 := hop i hi hA' a w hI.1 h1 h2
      rw [ho] at h3
      simp only at h3
      rw [if_neg (by simpa using hE)] at h3
      rcases h3 with ⟨hw, h3⟩ | ⟨hw, hv⟩
      · rw [if_pos hw.wanted]
        refine .inl (Oper.wp_mono (fun a' w' h => ?_) h3)
        obtain ⟨v, rfl, hb', hv⟩ := h
        exact key L a w i v w' hI hi hb' (by show if _ then _ else _; rw [if_neg hA]; exact hv) (fun h => absurd h hA)
      · rw [if_neg (by rw [hw.wanted]; simp), hdst]
        exact key L a w i undef w hI hi (Below.refl _ _) (by show if _ then _ else _; rw [if_neg hA]; exact hv) (fun h => absurd h hA)
  · intro L a w hI hall
    obtain ⟨hb, hsz, hdf, hts, hot, hf, hne⟩ := hI
    have he := putAll_eq (a := a) ds a0 hdf.symm hts.symm (fun d hd => by rw [hts]; exact hdt d hd) hot
    rw [← he]
    refine hend (fun t => a.eval (.tmp t)) w hb (fun i hi hA => ?_) (fun i hA => ?_) (fun i j hi hj hij => hne i j hi hj hij (hall i (hAlt i hi)) (hall j (hAlt j hj)))
    · have h3 : if AL.contains i then _ else _ := hf i hi (hall i hi)
      rw [if_neg (by rw [hA]; simp)] at h3
      exact h3
    · have h3 : if AL.contains i then _ else _ := hf i (hAlt i hA) (hall i (hAlt i hA))
      rw [if_pos hA] at h3
      exact h3
end
theorem wp_region_vg {id : Nat} {l : List Oper} {a0 : Act} {w0 : World} {Q : Exit → Act → World → Prop} (n1 : Nat) (ds E AL : List Nat) (T : TypeId) (z : List Value) (Vs : List SP)
    (hns : Region.noSelect l.toArray = true) (hB : phaseB l.toArray n1 E = true) (hF : freeB l.toArray E = true) (hD : VarG l n1 ds E AL T a0.tmps.size = true)
    (hz : ∀ w : World, (Instr.alloc T true (.tuple #[])).run Try.prog w = .ok (.pointer (some ⟨w.heap.size, 0, none⟩)) (w.alloc (.cells z.toArray T)))
    (hQ : ∀ d v c a w, Q (.panic c) (a.put d v) w → Q (.panic c) a w)
    (hop : ∀ i, i < n1 → AL.contains i = false → ∀ a w, Below w0.heap.size w0 w → (∀ t, ds.contains t = false → a.eval (.tmp t) = a0.eval (.tmp t)) → Deps l ds AL (vp Vs) i a w →
      match l[i]? with | none => True | some o => (WantG l ds o a true ∧ if E.contains i then ∃ v, (∀ w, (execOp a.eval o).run Try.prog w = .ok (.value v) w) ∧ vp Vs i v w else o.wp Try.prog a w (Post a w (ds.getD i 0) (vp Vs i)) Q) ∨ (WantG l ds o a false ∧ vp Vs i undef w))
    (hend : ∀ (vs : Nat → Value) (w : World), Below w0.heap.size w0 w → (∀ i, i < n1 → AL.contains i = false → vp Vs i (vs (ds.getD i 0)) w) →
      (∀ i, AL.contains i = true → ∃ g, vs (ds.getD i 0) = .pointer (some ⟨g, 0, none⟩) ∧ w0.heap.size ≤ g ∧ Blk w g T z) → (∀ i j, AL.contains i = true → AL.contains j = true → i ≠ j → vs (ds.getD i 0) ≠ vs (ds.getD j 0)) → wpList Try.prog l.toArray Q (l.drop n1) (putAll a0 ds vs) w) :
    (Code.region id l.toArray true).wp Try.prog Q a0 w0 := by
  refine wp_region_varg n1 ds E AL T z (vp Vs) (fun _ _ => True) mixed_ hns hB hF hD (fun _ _ _ _ _ _ => trivial) (fun _ _ _ _ => trivial) hz hQ (fun i v w w' h hb => (Vs.getD i SP.any).st v w w' h hb) ?_ (fun vs w h1 h2 h3 h4 => wpListS_plain _ _ _ _ (fun _ _ _ => trivial) (hend vs w h1 h2 h3 h4))
  intro i hi hA a w hb hs hd
  have h := hop i hi hA a w hb hs hd
  cases ho : l[i]? with
  | none => trivial
  | some o =>
    rw [ho] at h
    simp only at h ⊢
    rcases h with ⟨hw, h⟩ | h
    · refine .inl ⟨hw, ?_⟩
      split at h
      · next h1 =>
        rw [if_pos h1]
        obtain ⟨v, h2, h3⟩ := h
        exact ⟨v, fun w _ => h2 w, h3⟩
      · next h1 =>
        rw [if_neg h1]
        exact h
    · exact .inr h
end Go.Proofs.Ytddbmckbankmeaa
