/- Part 11 of the texts behind this claim. -/
import Derived.Test.YtddbmckbankmeaaKq1
set_option linter.unusedVariables false
set_option linter.unusedSimpArgs false
namespace Go.Proofs.Ytddbmckbankmeaa
open Go.RowKit
section
variable {P : Program} {ops : Array Oper} {Q : Exit → Act → World → Prop} {md : Region.Mode}
def VarF (l : List Oper) (n1 : Nat) (ds E AL : List Nat) (n : Nat) : Bool :=
  decide (ds.length = n1) && decide (n1 ≤ l.length) && ds.all (fun d => decide (d < n)) && decide ds.Nodup && E.all (fun i => decide (i < n1) && !AL.contains i) && AL.all (fun i => decide (i < n1)) &&
  (List.range n1).all (fun i => match l[i]? with | none => false | some o => decide (o.dst = some (ds.getD i 0)) && o.guard.isNone)
theorem wp_region_varf {id : Nat} (mk : Nat → Value) (hinj : ∀ g h, mk g = mk h → g = h) (n1 : Nat) {l : List Oper} {a0 : Act} {w0 : World} (ds E AL : List Nat) (T : TypeId) (z : List Value) (V : Nat → Value → World → Prop) (C : Nat → World → Prop)
    (hm : P.follows .mixedOrders = true) (hns : Region.noSelect l.toArray = true) (hB : phaseB l.toArray n1 E = true) (hF : freeB l.toArray E = true) (hD : VarF l n1 ds E AL a0.tmps.size = true)
    (hCt : ∀ i ∈ E, ∀ j ∈ E, j ∈ edgesOf l.toArray i → ∀ w, C j w) (hC0 : ∀ i ∈ E, ∀ w, Below w0.heap.size w0 w → C i w)
    (hz : ∀ i, AL.contains i = true → ∀ a w, Below w0.heap.size w0 w → (∀ t, ds.contains t = false → a.eval (.tmp t) = a0.eval (.tmp t)) → Deps l ds AL V i a w → ∀ o, l[i]? = some o → (execOp a.eval o).run P w = .ok (.value (mk w.heap.size)) (w.alloc (.cells z.toArray T)))
    (CP : List (Nat × Nat)) (hcp : ∀ c s, (c, s) ∈ CP → E.contains c = true ∧ ∃ o, l[c]? = some o ∧ o.op = .assign (.tmp (ds.getD s 0)) ∧ ∃ e ∈ o.after.toList, Region.binds .any e = true ∧ e.on = s)
    (hQ : ∀ d v c a w, Q (.panic c) (a.put d v) w → Q (.panic c) a w)
    (hV : ∀ i v w w', V i v w → Below w.heap.size w w' → V i v w')
    (hop : ∀ i, i < n1 → AL.contains i = false → ∀ a w, Below w0.heap.size w0 w → (∀ t, ds.contains t = false → a.eval (.tmp t) = a0.eval (.tmp t)) → Deps l ds AL V i a w →
      match l[i]? with | none => True | some o => if E.contains i then ∃ v, (∀ w, C i w → (execOp a.eval o).run P w = .ok (.value v) w) ∧ V i v w else o.wp P a w (Post a w (ds.getD i 0) (V i)) Q)
    (hend : ∀ (vs : Nat → Value) (w : World), (∀ c s, (c, s) ∈ CP → vs (ds.getD c 0) = vs (ds.getD s 0)) → Below w0.heap.size w0 w → (∀ i, i < n1 → AL.contains i = false → V i (vs (ds.getD i 0)) w) →
      (∀ i, AL.contains i = true → ∃ g, vs (ds.getD i 0) = mk g ∧ w0.heap.size ≤ g ∧ Blk w g T z) → (∀ i j, AL.contains i = true → AL.contains j = true → i ≠ j → vs (ds.getD i 0) ≠ vs (ds.getD j 0)) → wpListS P l.toArray Q E C n1 (l.drop n1) (putAll a0 ds vs) w) :
    (Code.region id l.toArray true).wp P Q a0 w0 := by
  unfold VarF at hD
  simp only [Bool.and_eq_true, decide_eq_true_eq, List.all_eq_true, List.mem_range] at hD
  obtain ⟨⟨⟨⟨⟨⟨hdl, hnl⟩, hdt⟩, hnd⟩, hEE⟩, hAA⟩, hops⟩ := hD
  have hop1 : ∀ i, i < n1 → ∃ o, l[i]? = some o ∧ o.dst = some (ds.getD i 0) ∧ o.guard = none := by
    intro i hi
    have h := hops i hi
    cases ho : l[i]? with
    | none => rw [ho] at h; cases h
    | some o =>
      rw [ho] at h
      simp only [Bool.and_eq_true, decide_eq_true_eq, Option.isNone_iff_eq_none] at h
      exact ⟨o, rfl, h.1, h.2⟩
  have hdi : ∀ i, i < n1 → ds.getD i 0 < a0.tmps.size := by
    intro i hi
    have : ds.getD i 0 ∈ ds := by
      rw [List.getD_eq_getElem?_getD, List.getElem?_eq_getElem (by omega)]
      exact List.getElem_mem _
    exact hdt _ this
  let F : Nat → Value → World → Prop := fun i v w => if AL.contains i then ∃ g, v = mk g ∧ w0.heap.size ≤ g ∧ Blk w g T z else V i v w
  have hFs : ∀ i v w w', F i v w → Below w.heap.size w w' → F i v w' := by
    intro i v w w' h hb
    show if _ then _ else _
    have h' : if _ then _ else _ := h
    split at h'
    · next hA =>
      rw [if_pos hA]
      obtain ⟨g, h1, h2, h3⟩ := h'
      exact ⟨g, h1, h2, h3.to hb⟩
    · next hA => rw [if_neg hA]; exact hV _ _ _ _ h' hb
  let I : Array Bool → Act → World → Prop := fun L a w => Below w0.heap.size w0 w ∧ L.size = l.length ∧ a.defers = a0.defers ∧ a.tmps.size = a0.tmps.size ∧ (∀ t, t ∉ ds → a0.tmps[t]? = a.tmps[t]?) ∧
    (∀ i, i < n1 → L.getD i false = true → F i (a.eval (.tmp (ds.getD i 0))) w) ∧
    (∀ i j, AL.contains i = true → AL.contains j = true → i ≠ j → L.getD i false = true → L.getD j false = true → a.eval (.tmp (ds.getD i 0)) ≠ a.eval (.tmp (ds.getD j 0))) ∧
    (∀ c s, (c, s) ∈ CP → L.getD c false = true → L.getD s false = true ∧ a.eval (.tmp (ds.getD c 0)) = a.eval (.tmp (ds.getD s 0)))
  have hAlt : ∀ i, AL.contains i = true → i < n1 := fun i h => hAA i (by simpa using h)
  have hcn' : ∀ c s, (c, s) ∈ CP → c < n1 := fun c s h => by
    have h2 := hEE c (by simpa using (hcp c s h).1)
    simp at h2
    exact h2.1
  have hsc' : ∀ c s, (c, s) ∈ CP → s < c := fun c s h => by
    obtain ⟨_, o, ho, _, e, he, hbd, heq⟩ := hcp c s h
    rw [← heq]
    exact (phaseB_back hB (by simpa using ho)).1 e (by simpa using he) hbd
  have hsn' : ∀ c s, (c, s) ∈ CP → s < n1 := fun c s h => Nat.lt_trans (hsc' c s h) (hcn' c s h)
  have hscne : ∀ c s, (c, s) ∈ CP → s ≠ c := fun c s h => Nat.ne_of_lt (hsc' c s h)
  have hrf : ∀ L : Array Bool, L.size = l.length → ∀ i, i ∈ Region.ready .any l.toArray L → L.getD i false = false := fun L hs i h => by
    have := ready_get (by simpa using hs) h
    simp only [Array.getElem?_toList] at this
    simp [Array.getD_eq_getD_getElem?, this]
  have key : ∀ L a w i v w', I L a w → i < n1 → Below w.heap.size w w' → F i v w' → (AL.contains i = true → ∀ j, AL.contains j = true → i ≠ j → L.getD j false = true → v ≠ a.eval (.tmp (ds.getD j 0))) → L.getD i false = false → (∀ s, (i, s) ∈ CP → L.getD s false = true ∧ v = a.eval (.tmp (ds.getD s 0))) → I (L.setIfInBounds i true) (a.put (some (ds.getD i 0)) v) w' := by
    intro L a w i v w' ⟨hb, hsz, hdf, hts, hot, hf, hne, hcv⟩ hi hb' hv hd hLi hci
    refine ⟨below_then hb hb.size hb', by simp [hsz], hdf, by simp [Act.put, hts], fun t ht => ?_, fun j hj hL => ?_, fun j k hj hk hjk hLj hLk => ?_, fun c s hcs hLc => ?_⟩
    · have : ds.getD i 0 ≠ t := fun e => ht (by rw [← e, List.getD_eq_getElem?_getD, List.getElem?_eq_getElem (by omega)]; exact List.getElem_mem _)
      show _ = (a.tmps.setIfInBounds _ _)[t]?
      rw [Array.getElem?_setIfInBounds_ne this]
      exact hot t ht
    · by_cases hij : j = i
      · subst hij
        rw [eval_put_same (by rw [hts]; exact hdi _ hi)]
        exact hv
      · rw [eval_put_other (nodup_ne hnd (by omega) (by omega) (Ne.symm hij))]
        rw [set_getD _ (by omega), if_neg hij] at hL
        exact hFs _ _ _ _ (hf j hj hL) hb'
    · have hjn := hAlt j hj
      have hkn := hAlt k hk
      by_cases hji : j = i
      · subst hji
        rw [eval_put_same (by rw [hts]; exact hdi _ hi), eval_put_other (nodup_ne hnd (by omega) (by omega) hjk)]
        rw [set_getD _ (by omega), if_neg (Ne.symm hjk)] at hLk
        exact hd hj k hk hjk hLk
      · by_cases hki : k = i
        · subst hki
          rw [eval_put_same (by rw [hts]; exact hdi _ hi), eval_put_other (nodup_ne hnd (by omega) (by omega) (Ne.symm hji))]
          rw [set_getD _ (by omega), if_neg hji] at hLj
          exact Ne.symm (hd hk j hj (Ne.symm hjk) hLj)
        · rw [eval_put_other (nodup_ne hnd (by omega) (by omega) (Ne.symm hji)), eval_put_other (nodup_ne hnd (by omega) (by omega) (Ne.symm hki))]
          rw [set_getD _ (by omega), if_neg hji] at hLj
          rw [set_getD _ (by omega), if_neg hki] at hLk
          exact hne j k hj hk hjk hLj hLk
    · have hcE := (hcp c s hcs).1
      have hcn : c < n1 := hcn' c s hcs
      have hsn : s < n1 := hsn' c s hcs
      have hcs2 : s ≠ c := hscne c s hcs
      by_cases hic : c = i
      · subst hic
        obtain ⟨h1, h2⟩ := hci s hcs
        rw [eval_put_same (by rw [hts]; exact hdi _ hi), eval_put_other (nodup_ne hnd (by omega) (by omega) (Ne.symm hcs2)), set_getD _ (by omega), if_neg hcs2]
        exact ⟨h1, h2⟩
      · rw [set_getD _ (by omega), if_neg hic] at hLc
        obtain ⟨h1, h2⟩ := hcv c s hcs hLc
        have hsi : s ≠ i := fun e => by subst e; rw [hLi] at h1; cases h1
        rw [eval_put_other (nodup_ne hnd (by omega) (by omega) (Ne.symm hic)), eval_put_other (nodup_ne hnd (by omega) (by omega) (Ne.symm hsi)), set_getD _ (by omega), if_neg hsi]
        exact ⟨h1, h2⟩
  have hpre : ∀ L a w i o, I L a w → i < n1 → i ∈ Region.ready .any l.toArray L → l[i]? = some o → (∀ t, ds.contains t = false → a.eval (.tmp t) = a0.eval (.tmp t)) ∧ Deps l ds AL V i a w := by
    intro L a w i o ⟨hb, hsz, hdf, hts, hot, hf, hne, hcv⟩ hi hr ho
    obtain ⟨_, o', ho', hall⟩ := mem_ready.1 hr
    have : o' = o := by simpa [ho] using ho'.symm
    subst this
    refine ⟨fun t ht => ?_, fun j hj => ?_⟩
    · have := hot t (by simpa using ht)
      show a.tmps.getD t undef = a0.tmps.getD t undef
      simp only [Array.getD_eq_getD_getElem?, this]
    · rw [ho] at hj
      simp only [Option.map_some, Option.getD_some, Bool.and_eq_true, Bool.not_eq_true', List.any_eq_true, decide_eq_true_eq] at hj
      obtain ⟨⟨e, he, hbd, heq⟩, hA⟩ := hj
      have hj1 : j < i := by rw [← heq]; exact (phaseB_back hB ho').1 e (by simpa using he) hbd
      have h1 := hf j (by omega) (by rw [← heq]; exact hall e (by simpa using he) hbd)
      have h2 : if AL.contains j then _ else _ := h1
      rw [if_neg (by rw [hA]; simp)] at h2
      exact h2
  refine wp_region_phase (n1 := n1) E C hm hns hB hF (fun i hi => by have := hEE i hi; simp at this; exact this.1) hCt hnl hQ I ?_ (fun L a w h i hi => hC0 i hi w h.1) ?_ ?_ ?_
  · refine ⟨below_drew (Below.refl _ _), by simp, rfl, rfl, fun _ _ => rfl, fun i hi hL => ?_, fun i j _ _ _ hL _ => ?_, fun c s _ hL => ?_⟩
    · rw [rep_getD] at hL; cases hL
    · rw [rep_getD] at hL; cases hL
    · rw [rep_getD] at hL; cases hL
  · intro L a w i o hI hi hr ho
    have hEi := hEE i hi
    simp only [Bool.and_eq_true, decide_eq_true_eq, Bool.not_eq_true'] at hEi
    obtain ⟨h1, h2⟩ := hpre L a w i o hI hEi.1 hr ho
    have h3 := hop i hEi.1 hEi.2 a w hI.1 h1 h2
    rw [ho] at h3
    simp only at h3
    rw [if_pos (by simpa using hi)] at h3
    obtain ⟨v, hy, hv⟩ := h3
    obtain ⟨o', ho', hdst, hg⟩ := hop1 i hEi.1
    have : o' = o := by rw [ho] at ho'; exact (Option.some.inj ho').symm
    subst this
    refine ⟨v, .inl ⟨by simp [Region.wanted, hg], hy⟩, ?_⟩
    rw [hdst]
    exact key L a w i v w hI hEi.1 (Below.refl _ _) (by show if _ then _ else _; rw [if_neg (by rw [hEi.2]; simp)]; exact hv) (fun h => by rw [hEi.2] at h; cases h) (hrf L hI.2.1 i hr) (fun s hs => by
      obtain ⟨_, o2, ho2, hop2, e, he, hbd, heq⟩ := hcp i s hs
      have : o2 = o' := by rw [ho] at ho2; exact (Option.some.inj ho2).symm
      subst this
      obtain ⟨_, o3, ho3, hall⟩ := mem_ready.1 hr
      have : o3 = o2 := by simpa [ho] using ho3.symm
      subst this
      refine ⟨by rw [← heq]; exact hall e (by simpa using he) hbd, ?_⟩
      have h5 := hy w (hC0 i hi w hI.1)
      have h6 : (execOp a.eval o3).run P w = .ok (.value (a.eval (.tmp (ds.getD s 0)))) w := by
        unfold execOp
        simp only [hop2, Sem.run_pure]
      rw [h6] at h5
      injection h5 with h5 _
      injection h5 with h5
      exact h5.symm)
  · intro L a w i hI hi hE hr
    obtain ⟨o, ho, hdst, hg⟩ := hop1 i hi
    obtain ⟨h1, h2⟩ := hpre L a w i o hI hi hr ho
    unfold wpOp
    have ho2 : l.toArray[i]? = some o := by simpa using ho
    rw [ho2]
    simp only
    rw [if_pos (by simp [Region.wanted, hg])]
    refine .inl ?_
    by_cases hA : AL.contains i = true
    · unfold Oper.wp
      rw [hz i hA a w hI.1 h1 h2 o ho]
      simp only [Oper.upon, hdst]
      refine key L a w i _ _ hI hi (below_alloc (Below.refl _ _) _) ?_ ?_ ?_ ?_
      · show if _ then _ else _
        rw [if_pos hA]
        exact ⟨_, rfl, hI.1.size, heap_alloc_new _ _⟩
      · intro _ j hj hij hL
        have h3 : if AL.contains j then _ else _ := hI.2.2.2.2.2.1 j (hAlt j hj) hL
        rw [if_pos hj] at h3
        obtain ⟨g, hg1, _, hg2⟩ := h3
        rw [hg1]
        intro he
        have := hg2.lt
        have := hinj _ _ he
        omega
      · exact hrf L hI.2.1 i hr
      · intro s hs
        have := (hcp i s hs).1
        exact absurd (by simpa using this) hE
    · have hA' : AL.contains i = false := by simpa using hA
      have h3 := hop i hi hA' a w hI.1 h1 h2
      rw [ho] at h3
      simp only at h3
      rw [if_neg (by simpa using hE)] at h3
      refine Oper.wp_mono (fun a' w' h => ?_) h3
      obtain ⟨v, rfl, hb', hv⟩ := h
      exact key L a w i v w' hI hi hb' (by show if _ then _ else _; rw [if_neg hA]; exact hv) (fun h => absurd h hA) (hrf L hI.2.1 i hr) (fun s hs => absurd (by simpa using (hcp i s hs).1) hE)
  · intro L a w hI hall
    obtain ⟨hb, hsz, hdf, hts, hot, hf, hne, hcv⟩ := hI
    have he := putAll_eq (a := a) ds a0 hdf.symm hts.symm (fun d hd => by rw [hts]; exact hdt d hd) hot
    rw [← he]
    refine hend (fun t => a.eval (.tmp t)) w (fun c s h => (hcv c s h (hall c (hcn' c s h))).2) hb (fun i hi hA => ?_) (fun i hA => ?_) (fun i j hi hj hij => hne i j hi hj hij (hall i (hAlt i hi)) (hall j (hAlt j hj)))
    · have h3 : if AL.contains i then _ else _ := hf i hi (hall i hi)
      rw [if_neg (by rw [hA]; simp)] at h3
      exact h3
    · have h3 : if AL.contains i then _ else _ := hf i (hAlt i hA) (hall i (hAlt i hA))
      rw [if_pos hA] at h3
      exact h3
end
section
variable {Q : Exit → Act → World → Prop} {id : Nat} {l : List Oper} {a0 : Act} {w0 : World}
theorem wp_region_vf (mk : Nat → Value) (hinj : ∀ g h, mk g = mk h → g = h) (n1 : Nat) (ds E AL : List Nat) (T : TypeId) (z : List Value) (Vs : List SP)
    (hns : Region.noSelect l.toArray = true) (hB : phaseB l.toArray n1 E = true) (hF : freeB l.toArray E = true) (hD : VarF l n1 ds E AL a0.tmps.size = true)
    (hz : ∀ i, AL.contains i = true → ∀ a w, Below w0.heap.size w0 w → (∀ t, ds.contains t = false → a.eval (.tmp t) = a0.eval (.tmp t)) → Deps l ds AL (vp Vs) i a w → ∀ o, l[i]? = some o → (execOp a.eval o).run Try.prog w = .ok (.value (mk w.heap.size)) (w.alloc (.cells z.toArray T)))
    (CP : List (Nat × Nat)) (hcp : ∀ c s, (c, s) ∈ CP → E.contains c = true ∧ ∃ o, l[c]? = some o ∧ o.op = .assign (.tmp (ds.getD s 0)) ∧ ∃ e ∈ o.after.toList, Region.binds .any e = true ∧ e.on = s)
    (hQ : ∀ d v c a w, Q (.panic c) (a.put d v) w → Q (.panic c) a w)
    (hop : ∀ i, i < n1 → AL.contains i = false → ∀ a w, Below w0.heap.size w0 w → (∀ t, ds.contains t = false → a.eval (.tmp t) = a0.eval (.tmp t)) → Deps l ds AL (vp Vs) i a w →
      match l[i]? with | none => True | some o => if E.contains i then ∃ v, (∀ w, (execOp a.eval o).run Try.prog w = .ok (.value v) w) ∧ vp Vs i v w else o.wp Try.prog a w (Post a w (ds.getD i 0) (vp Vs i)) Q)
    (hend : ∀ (vs : Nat → Value) (w : World), (∀ c s, (c, s) ∈ CP → vs (ds.getD c 0) = vs (ds.getD s 0)) → Below w0.heap.size w0 w → (∀ i, i < n1 → AL.contains i = false → vp Vs i (vs (ds.getD i 0)) w) →
      (∀ i, AL.contains i = true → ∃ g, vs (ds.getD i 0) = mk g ∧ w0.heap.size ≤ g ∧ Blk w g T z) → (∀ i j, AL.contains i = true → AL.contains j = true → i ≠ j → vs (ds.getD i 0) ≠ vs (ds.getD j 0)) → wpList Try.prog l.toArray Q (l.drop n1) (putAll a0 ds vs) w) :
    (Code.region id l.toArray true).wp Try.prog Q a0 w0 := by
  refine wp_region_varf mk hinj n1 ds E AL T z (vp Vs) (fun _ _ => True) mixed_ hns hB hF hD (fun _ _ _ _ _ _ => trivial) (fun _ _ _ _ => trivial) hz CP hcp hQ (fun i v w w' h hb => (Vs.getD i SP.any).st v w w' h hb) ?_ (fun vs w h0 h1 h2 h3 h4 => wpListS_plain _ _ _ _ (fun _ _ _ => trivial) (hend vs w h0 h1 h2 h3 h4))
  intro i hi hA a w hb hs hd
  have h := hop i hi hA a w hb hs hd
  cases ho : l[i]? with
  | none => trivial
  | some o =>
    rw [ho] at h
    simp only at h ⊢
    split at h
    · next h1 =>
      rw [if_pos h1]
      obtain ⟨v, h2, h3⟩ := h
      exact ⟨v, fun w _ => h2 w, h3⟩
    · next h1 =>
      rw [if_neg h1]
      exact h
end
end Go.Proofs.Ytddbmckbankmeaa
