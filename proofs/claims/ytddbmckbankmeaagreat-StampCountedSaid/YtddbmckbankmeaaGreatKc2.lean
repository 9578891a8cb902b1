/- Part 2 of the texts behind this claim. -/
import Derived.Test.YtddbmckbankmeaaGreatKc1
set_option linter.unusedVariables false
set_option linter.unusedSimpArgs false
namespace Go.Proofs.YtddbmckbankmeaaGreat
open Go.RowKit
def VarG (l : List Oper) (n1 : Nat) (ds E AL : List Nat) (T : TypeId) (n : Nat) : Bool :=
 decide (ds.length = n1) && decide (n1 ≤ l.length) && ds.all (fun d => decide (d < n)) && decide ds.Nodup && E.all (fun i => decide (i < n1) && !AL.contains i) && AL.all (fun i => decide (i < n1)) &&
 (List.range n1).all (fun i => match l[i]? with | none => false | some o => decide (o.dst = some (ds.getD i 0)) && (!AL.contains i || o.guard.isNone) && (!AL.contains i || match o.op with | .alloc t => t == T | _ => false))
def WantG (l : List Oper) (ds : List Nat) (o : Oper) (a : Act) (t : Bool) : Prop :=
 match o.guard with
 | none => t = true
 | some (j, b) => ((l[j]?).bind (·.dst)) = some (ds.getD j 0) ∧ (a.eval (.tmp (ds.getD j 0)) = .bool (if t then b else !b) ∨ (t = false ∧ a.eval (.tmp (ds.getD j 0)) = undef))
theorem WantG.wanted {l : List Oper} {ds : List Nat} {o : Oper} {a : Act} {t : Bool} (h : WantG l ds o a t) : Region.wanted o (yielded l.toArray a.tmps) = t := by
 unfold WantG at h; unfold Region.wanted; split at h
 ·next hg => rw [hg]; exact h.symm
 next j b hg =>
 rw [hg]; simp only; obtain ⟨h1, h2⟩ := h; rcases h2 with h2 | ⟨rfl, h2⟩
 ·have h3 : a.tmps.getD (ds.getD j 0) undef = .bool (if t then b else !b) := h2
  have h4 : a.tmps[ds.getD j 0]? = some (.bool (if t then b else !b)) := by
   rw [Array.getD_eq_getD_getElem?] at h3
   cases h : a.tmps[ds.getD j 0]? with
   | none => rw [h] at h3; simp [undef] at h3
   | some v => rw [h] at h3; simp at h3; rw [h3]
  have h5 : yielded l.toArray a.tmps j = some (if t then b else !b) := by
   unfold yielded; rw [List.getElem?_toArray, h1]; simp only [Option.bind_some, h4]
  rw [h5]; cases t <;> cases b <;> rfl
 have h3 : a.tmps.getD (ds.getD j 0) undef = undef := h2
 have h5 : yielded l.toArray a.tmps j = none := by
  unfold yielded; rw [List.getElem?_toArray, h1]; simp only [Option.bind_some]
  cases h : a.tmps[ds.getD j 0]? with
  | none => rfl
  | some v =>
   rw [Array.getD_eq_getD_getElem?, h] at h3; simp at h3; rw [h3]; rfl
 rw [h5]; rfl
section
variable {P : Program} {Q : Exit → Act → World → Prop}
theorem wp_region_varg {id : Nat} (n1 : Nat) {l : List Oper} {a0 : Act} {w0 : World} (ds E AL : List Nat) (T : TypeId) (z : List Value) (V : Nat → Value → World → Prop) (C : Nat → World → Prop)
  (hm : P.follows .mixedOrders = true) (hns : Region.noSelect l.toArray = true) (hB : phaseB l.toArray n1 E = true) (hF : freeB l.toArray E = true) (hD : VarG l n1 ds E AL T a0.tmps.size = true)
  (hCt : ∀ i ∈ E, ∀ j ∈ E, j ∈ edgesOf l.toArray i → ∀ w, C j w) (hC0 : ∀ i ∈ E, ∀ w, Below w0.heap.size w0 w → C i w)
  (hz : ∀ w : World, (Instr.alloc T true (.tuple #[])).run P w = .ok (.pointer (some ⟨w.heap.size, 0, none⟩)) (w.alloc (.cells z.toArray T)))
  (hQ : ∀ d v c a w, Q (.panic c) (a.put d v) w → Q (.panic c) a w)
  (hV : ∀ i v w w', V i v w → Below w.heap.size w w' → V i v w')
  (hop : ∀ i, i < n1 → AL.contains i = false → ∀ a w, Below w0.heap.size w0 w → (∀ t, ds.contains t = false → a.eval (.tmp t) = a0.eval (.tmp t)) → Deps l ds AL V i a w →
   match l[i]? with | none => True | some o => (WantG l ds o a true ∧ if E.contains i then ∃ v, (∀ w, C i w → (execOp a.eval o).run P w = .ok (.value v) w) ∧ V i v w else o.wp P a w (Post a w (ds.getD i 0) (V i)) Q) ∨ (WantG l ds o a false ∧ V i undef w))
  (hend : ∀ (vs : Nat → Value) (w : World), Below w0.heap.size w0 w → (∀ i, i < n1 → AL.contains i = false → V i (vs (ds.getD i 0)) w) →
   (∀ i, AL.contains i = true → ∃ g, vs (ds.getD i 0) = .pointer (some ⟨g, 0, none⟩) ∧ w0.heap.size ≤ g ∧ Blk w g T z) → (∀ i j, AL.contains i = true → AL.contains j = true → i ≠ j → vs (ds.getD i 0) ≠ vs (ds.getD j 0)) → wpListS P l.toArray Q E C n1 (l.drop n1) (putAll a0 ds vs) w) :
  (Code.region id l.toArray true).wp P Q a0 w0 := by
 unfold VarG at hD; simp only [Bool.and_eq_true, decide_eq_true_eq, List.all_eq_true, List.mem_range] at hD; obtain ⟨⟨⟨⟨⟨⟨hdl, hnl⟩, hdt⟩, hnd⟩, hEE⟩, hAA⟩, hops⟩ := hD
 have hop1 : ∀ i, i < n1 → ∃ o, l[i]? = some o ∧ o.dst = some (ds.getD i 0) ∧ (AL.contains i = true → o.guard = none) ∧ (AL.contains i = true → o.op = .alloc T) := by
  intro i hi; have h := hops i hi
  cases ho : l[i]? with
  | none => rw [ho] at h; cases h
  | some o =>
   rw [ho] at h; simp only [Bool.and_eq_true, decide_eq_true_eq, Bool.or_eq_true, Bool.not_eq_true', Option.isNone_iff_eq_none] at h; refine ⟨o, rfl, h.1.1, fun hA => h.1.2.elim (fun h3 => by rw [hA] at h3; cases h3) (fun h3 => h3), fun hA => ?_⟩; rcases h.2 with h2 | h2
   ·rw [hA] at h2; cases h2
   revert h2
   cases o.op <;> simp
 have hdi : ∀ i, i < n1 → ds.getD i 0 < a0.tmps.size := by
  intro i hi
  have : ds.getD i 0 ∈ ds := by
   rw [List.getD_eq_getElem?_getD, List.getElem?_eq_getElem (by omega)]; exact List.getElem_mem _
  exact hdt _ this
 let F : Nat → Value → World → Prop := fun i v w => if AL.contains i then ∃ g, v = .pointer (some ⟨g, 0, none⟩) ∧ w0.heap.size ≤ g ∧ Blk w g T z else V i v w
 have hFs : ∀ i v w w', F i v w → Below w.heap.size w w' → F i v w' := by
  intro i v w w' h hb; show if _ then _ else _
  have h' : if _ then _ else _ := h
  split at h'
  ·next hA =>
   rw [if_pos hA]; obtain ⟨g, h1, h2, h3⟩ := h'; exact ⟨g, h1, h2, h3.to hb⟩
  next hA => rw [if_neg hA]; exact hV _ _ _ _ h' hb
 let I : Array Bool → Act → World → Prop := fun L a w => Below w0.heap.size w0 w ∧ L.size = l.length ∧ a.defers = a0.defers ∧ a.tmps.size = a0.tmps.size ∧ (∀ t, t ∉ ds → a0.tmps[t]? = a.tmps[t]?) ∧
  (∀ i, i < n1 → L.getD i false = true → F i (a.eval (.tmp (ds.getD i 0))) w) ∧
  (∀ i j, AL.contains i = true → AL.contains j = true → i ≠ j → L.getD i false = true → L.getD j false = true → a.eval (.tmp (ds.getD i 0)) ≠ a.eval (.tmp (ds.getD j 0)))
 have hAlt : ∀ i, AL.contains i = true → i < n1 := fun i h => hAA i (by simpa using h)
 -- an operation that is no new variable
 have key : ∀ L a w i v w', I L a w → i < n1 → Below w.heap.size w w' → F i v w' → (AL.contains i = true → ∀ j, AL.contains j = true → i ≠ j → L.getD j false = true → v ≠ a.eval (.tmp (ds.getD j 0))) → I (L.setIfInBounds i true) (a.put (some (ds.getD i 0)) v) w' := by
  intro L a w i v w' ⟨hb, hsz, hdf, hts, hot, hf, hne⟩ hi hb' hv hd; refine ⟨below_then hb hb.size hb', by simp [hsz], hdf, by simp [Act.put, hts], fun t ht => ?_, fun j hj hL => ?_, fun j k hj hk hjk hLj hLk => ?_⟩
  ·have : ds.getD i 0 ≠ t := fun e => ht (by rw [← e, List.getD_eq_getElem?_getD, List.getElem?_eq_getElem (by omega)]; exact List.getElem_mem _)
   show _ = (a.tmps.setIfInBounds _ _)[t]?; rw [Array.getElem?_setIfInBounds_ne this]; exact hot t ht
  ·by_cases hij : j = i
   ·subst hij; rw [eval_put_same (by rw [hts]; exact hdi _ hi)]; exact hv
   rw [eval_put_other (nodup_ne hnd (by omega) (by omega) (Ne.symm hij))]; rw [set_getD _ (by omega), if_neg hij] at hL; exact hFs _ _ _ _ (hf j hj hL) hb'
  have hjn := hAlt j hj; have hkn := hAlt k hk; by_cases hji : j = i
  ·subst hji; rw [eval_put_same (by rw [hts]; exact hdi _ hi), eval_put_other (nodup_ne hnd (by omega) (by omega) hjk)]; rw [set_getD _ (by omega), if_neg (Ne.symm hjk)] at hLk; exact hd hj k hk hjk hLk
  by_cases hki : k = i
  ·subst hki; rw [eval_put_same (by rw [hts]; exact hdi _ hi), eval_put_other (nodup_ne hnd (by omega) (by omega) (Ne.symm hji))]; rw [set_getD _ (by omega), if_neg hji] at hLj; exact Ne.symm (hd hk j hj (Ne.symm hjk) hLj)
  rw [eval_put_other (nodup_ne hnd (by omega) (by omega) (Ne.symm hji)), eval_put_other (nodup_ne hnd (by omega) (by omega) (Ne.symm hki))]; rw [set_getD _ (by omega), if_neg hji] at hLj; rw [set_getD _ (by omega), if_neg hki] at hLk; exact hne j k hj hk hjk hLj hLk
 have hpre : ∀ L a w i o, I L a w → i < n1 → i ∈ Region.ready .any l.toArray L → l[i]? = some o → (∀ t, ds.contains t = false → a.eval (.tmp t) = a0.eval (.tmp t)) ∧ Deps l ds AL V i a w := by
  intro L a w i o ⟨hb, hsz, hdf, hts, hot, hf, hne⟩ hi hr ho; obtain ⟨_, o', ho', hall⟩ := mem_ready.1 hr; have : o' = o := by simpa [ho] using ho'.symm
  subst this; refine ⟨fun t ht => ?_, fun j hj => ?_⟩
  ·have := hot t (by simpa using ht); show a.tmps.getD t undef = a0.tmps.getD t undef; simp only [Array.getD_eq_getD_getElem?, this]
  rw [ho] at hj; simp only [Option.map_some, Option.getD_some, Bool.and_eq_true, Bool.not_eq_true', List.any_eq_true, decide_eq_true_eq] at hj; obtain ⟨⟨e, he, hbd, heq⟩, hA⟩ := hj; have hj1 : j < i := by rw [← heq]; exact (phaseB_back hB ho').1 e (by simpa using he) hbd
  have h1 := hf j (by omega) (by rw [← heq]; exact hall e (by simpa using he) hbd); have h2 : if AL.contains j then _ else _ := h1
  rw [if_neg (by rw [hA]; simp)] at h2; exact h2
 refine wp_region_phase (n1 := n1) E C hm hns hB hF (fun i hi => by have := hEE i hi; simp at this; exact this.1) hCt hnl hQ I ?_ (fun L a w h i hi => hC0 i hi w h.1) ?_ ?_ ?_
 ·refine ⟨below_drew (Below.refl _ _), by simp, rfl, rfl, fun _ _ => rfl, fun i hi hL => ?_, fun i j _ _ _ hL _ => ?_⟩
  ·rw [rep_getD] at hL; cases hL
  rw [rep_getD] at hL; cases hL
 ·intro L a w i o hI hi hr ho; have hEi := hEE i hi; simp only [Bool.and_eq_true, decide_eq_true_eq, Bool.not_eq_true'] at hEi; obtain ⟨h1, h2⟩ := hpre L a w i o hI hEi.1 hr ho; have h3 := hop i hEi.1 hEi.2 a w hI.1 h1 h2; rw [ho] at h3; simp only at h3; rw [if_pos (by simpa using hi)] at h3; obtain ⟨o', ho', hdst, hg, _⟩ := hop1 i hEi.1; have : o' = o := by rw [ho] at ho'; exact (Option.some.inj ho').symm
  subst this; rcases h3 with ⟨hw, v, hy, hv⟩ | ⟨hw, hv⟩
  ·refine ⟨v, .inl ⟨hw.wanted, hy⟩, ?_⟩; rw [hdst]; exact key L a w i v w hI hEi.1 (Below.refl _ _) (by show if _ then _ else _; rw [if_neg (by rw [hEi.2]; simp)]; exact hv) (fun h => by rw [hEi.2] at h; cases h)
  refine ⟨undef, .inr ⟨hw.wanted, rfl⟩, ?_⟩; rw [hdst]; exact key L a w i undef w hI hEi.1 (Below.refl _ _) (by show if _ then _ else _; rw [if_neg (by rw [hEi.2]; simp)]; exact hv) (fun h => by rw [hEi.2] at h; cases h)
 ·intro L a w i hI hi hE hr; obtain ⟨o, ho, hdst, hg, hal⟩ := hop1 i hi; obtain ⟨h1, h2⟩ := hpre L a w i o hI hi hr ho; unfold wpOp; have ho2 : l.toArray[i]? = some o := by simpa using ho
  rw [ho2]; simp only; by_cases hA : AL.contains i = true
  ·rw [if_pos (by simp [Region.wanted, hg hA])]; refine .inl ?_; unfold Oper.wp execOp; simp only [hal hA, Sem.run_bind, hz, Result.andThen_ok, Sem.run_pure, Oper.upon, hdst]; refine key L a w i _ _ hI hi (below_alloc (Below.refl _ _) _) ?_ ?_
   ·show if _ then _ else _
    rw [if_pos hA]; exact ⟨_, rfl, hI.1.size, heap_alloc_new _ _⟩
   intro _ j hj hij hL; have h3 : if AL.contains j then _ else _ := hI.2.2.2.2.2.1 j (hAlt j hj) hL
   rw [if_pos hj] at h3; obtain ⟨g, hg1, _, hg2⟩ := h3; rw [hg1]; intro he; have := hg2.lt; injection he with he
   injection he with he
   injection he with he
   omega
  have hA' : AL.contains i = false := by simpa using hA
  have h3 := hop i hi hA' a w hI.1 h1 h2; rw [ho] at h3; simp only at h3; rw [if_neg (by simpa using hE)] at h3; rcases h3 with ⟨hw, h3⟩ | ⟨hw, hv⟩
  ·rw [if_pos hw.wanted]; refine .inl (Oper.wp_mono (fun a' w' h => ?_) h3); obtain ⟨v, rfl, hb', hv⟩ := h; exact key L a w i v w' hI hi hb' (by show if _ then _ else _; rw [if_neg hA]; exact hv) (fun h => absurd h hA)
  rw [if_neg (by rw [hw.wanted]; simp), hdst]; exact key L a w i undef w hI hi (Below.refl _ _) (by show if _ then _ else _; rw [if_neg hA]; exact hv) (fun h => absurd h hA)
 intro L a w hI hall; obtain ⟨hb, hsz, hdf, hts, hot, hf, hne⟩ := hI; have he := putAll_eq (a := a) ds a0 hdf.symm hts.symm (fun d hd => by rw [hts]; exact hdt d hd) hot; rw [← he]; refine hend (fun t => a.eval (.tmp t)) w hb (fun i hi hA => ?_) (fun i hA => ?_) (fun i j hi hj hij => hne i j hi hj hij (hall i (hAlt i hi)) (hall j (hAlt j hj)))
 ·have h3 : if AL.contains i then _ else _ := hf i hi (hall i hi)
  rw [if_neg (by rw [hA]; simp)] at h3; exact h3
 have h3 : if AL.contains i then _ else _ := hf i (hAlt i hA) (hall i (hAlt i hA))
 rw [if_pos hA] at h3; exact h3
end
theorem wp_region_vg {id : Nat} {l : List Oper} {a0 : Act} {w0 : World} {Q : Exit → Act → World → Prop} (n1 : Nat) (ds E AL : List Nat) (T : TypeId) (z : List Value) (Vs : List SP)
  (hns : Region.noSelect l.toArray = true) (hB : phaseB l.toArray n1 E = true) (hF : freeB l.toArray E = true) (hD : VarG l n1 ds E AL T a0.tmps.size = true)
  (hz : ∀ w : World, (Instr.alloc T true (.tuple #[])).run Tryz.prog w = .ok (.pointer (some ⟨w.heap.size, 0, none⟩)) (w.alloc (.cells z.toArray T)))
  (hQ : ∀ d v c a w, Q (.panic c) (a.put d v) w → Q (.panic c) a w)
  (hop : ∀ i, i < n1 → AL.contains i = false → ∀ a w, Below w0.heap.size w0 w → (∀ t, ds.contains t = false → a.eval (.tmp t) = a0.eval (.tmp t)) → Deps l ds AL (vp Vs) i a w →
   match l[i]? with | none => True | some o => (WantG l ds o a true ∧ if E.contains i then ∃ v, (∀ w, (execOp a.eval o).run Tryz.prog w = .ok (.value v) w) ∧ vp Vs i v w else o.wp Tryz.prog a w (Post a w (ds.getD i 0) (vp Vs i)) Q) ∨ (WantG l ds o a false ∧ vp Vs i undef w))
  (hend : ∀ (vs : Nat → Value) (w : World), Below w0.heap.size w0 w → (∀ i, i < n1 → AL.contains i = false → vp Vs i (vs (ds.getD i 0)) w) →
   (∀ i, AL.contains i = true → ∃ g, vs (ds.getD i 0) = .pointer (some ⟨g, 0, none⟩) ∧ w0.heap.size ≤ g ∧ Blk w g T z) → (∀ i j, AL.contains i = true → AL.contains j = true → i ≠ j → vs (ds.getD i 0) ≠ vs (ds.getD j 0)) → wpList Tryz.prog l.toArray Q (l.drop n1) (putAll a0 ds vs) w) :
  (Code.region id l.toArray true).wp Tryz.prog Q a0 w0 := by
 refine wp_region_varg n1 ds E AL T z (vp Vs) (fun _ _ => True) mixed_ hns hB hF hD (fun _ _ _ _ _ _ => trivial) (fun _ _ _ _ => trivial) hz hQ (fun i v w w' h hb => (Vs.getD i SP.any).st v w w' h hb) ?_ (fun vs w h1 h2 h3 h4 => wpListS_plain _ _ _ _ (fun _ _ _ => trivial) (hend vs w h1 h2 h3 h4)); intro i hi hA a w hb hs hd; have h := hop i hi hA a w hb hs hd
 cases ho : l[i]? with
 | none => trivial
 | some o =>
  rw [ho] at h; simp only at h ⊢; rcases h with ⟨hw, h⟩ | h
  ·refine .inl ⟨hw, ?_⟩; split at h
   ·next h1 =>
    rw [if_pos h1]; obtain ⟨v, h2, h3⟩ := h; exact ⟨v, fun w _ => h2 w, h3⟩
   next h1 =>
   rw [if_neg h1]; exact h
  exact .inr h
def DepsD (ds AL : List Nat) (V : Nat → Value → World → Prop) (i : Nat) (a : Act) (w : World) : Prop :=
 ∀ j, (decide (j < i) && !AL.contains j) = true → V j (a.eval (.tmp (ds.getD j 0))) w
theorem wp_region_vd {id : Nat} {l : List Oper} {a0 : Act} {w0 : World} {Q : Exit → Act → World → Prop} (n1 : Nat) (ds E AL : List Nat) (T : TypeId) (z : List Value) (Vs : List SP)
  (hD : VarG l n1 ds E AL T a0.tmps.size = true)
  (hz : ∀ w : World, (Instr.alloc T true (.tuple #[])).run Tryz.prog w = .ok (.pointer (some ⟨w.heap.size, 0, none⟩)) (w.alloc (.cells z.toArray T)))
  (hop : ∀ i, i < n1 → AL.contains i = false → ∀ a w, Below w0.heap.size w0 w → (∀ t, ds.contains t = false → a.eval (.tmp t) = a0.eval (.tmp t)) → DepsD ds AL (vp Vs) i a w →
   match l[i]? with | none => True | some o => (WantG l ds o a true ∧ if E.contains i then ∃ v, (∀ w, (execOp a.eval o).run Tryz.prog w = .ok (.value v) w) ∧ vp Vs i v w else o.wp Tryz.prog a w (Post a w (ds.getD i 0) (vp Vs i)) Q) ∨ (WantG l ds o a false ∧ vp Vs i undef w))
  (hend : ∀ (vs : Nat → Value) (w : World), Below w0.heap.size w0 w → (∀ i, i < n1 → AL.contains i = false → vp Vs i (vs (ds.getD i 0)) w) →
   (∀ i, AL.contains i = true → ∃ g, vs (ds.getD i 0) = .pointer (some ⟨g, 0, none⟩) ∧ w0.heap.size ≤ g ∧ Blk w g T z) → (∀ i j, AL.contains i = true → AL.contains j = true → i ≠ j → vs (ds.getD i 0) ≠ vs (ds.getD j 0)) → wpList Tryz.prog l.toArray Q (l.drop n1) (putAll a0 ds vs) w) :
  (Code.region id l.toArray false).wp Tryz.prog Q a0 w0 := by
 unfold VarG at hD; simp only [Bool.and_eq_true, decide_eq_true_eq, List.all_eq_true, List.mem_range] at hD; obtain ⟨⟨⟨⟨⟨⟨hdl, hnl⟩, hdt⟩, hnd⟩, hEE⟩, hAA⟩, hops⟩ := hD
 have hop1 : ∀ i, i < n1 → ∃ o, l[i]? = some o ∧ o.dst = some (ds.getD i 0) ∧ (AL.contains i = true → o.guard = none) ∧ (AL.contains i = true → o.op = .alloc T) := by
  intro i hi; have h := hops i hi
  cases ho : l[i]? with
  | none => rw [ho] at h; cases h
  | some o =>
   rw [ho] at h; simp only [Bool.and_eq_true, decide_eq_true_eq, Bool.or_eq_true, Bool.not_eq_true', Option.isNone_iff_eq_none] at h; refine ⟨o, rfl, h.1.1, fun hA => h.1.2.elim (fun h3 => by rw [hA] at h3; cases h3) (fun h3 => h3), fun hA => ?_⟩; rcases h.2 with h2 | h2
   ·rw [hA] at h2; cases h2
   revert h2
   cases o.op <;> simp
 have hdi : ∀ i, i < n1 → ds.getD i 0 < a0.tmps.size := by
  intro i hi
  have : ds.getD i 0 ∈ ds := by
   rw [List.getD_eq_getElem?_getD, List.getElem?_eq_getElem (by omega)]; exact List.getElem_mem _
  exact hdt _ this
 let V : Nat → Value → World → Prop := vp Vs
 have hV : ∀ i v w w', V i v w → Below w.heap.size w w' → V i v w' := fun i v w w' h hb => (Vs.getD i SP.any).st v w w' h hb
 let F : Nat → Value → World → Prop := fun i v w => if AL.contains i then ∃ g, v = .pointer (some ⟨g, 0, none⟩) ∧ w0.heap.size ≤ g ∧ Blk w g T z else V i v w
 have hFs : ∀ i v w w', F i v w → Below w.heap.size w w' → F i v w' := by
  intro i v w w' h hb; show if _ then _ else _
  have h' : if _ then _ else _ := h
  split at h'
  ·next hA =>
   rw [if_pos hA]; obtain ⟨g, h1, h2, h3⟩ := h'; exact ⟨g, h1, h2, h3.to hb⟩
  next hA => rw [if_neg hA]; exact hV _ _ _ _ h' hb
 let I : Nat → Act → World → Prop := fun k a w => Below w0.heap.size w0 w ∧ a.defers = a0.defers ∧ a.tmps.size = a0.tmps.size ∧ (∀ t, t ∉ ds → a0.tmps[t]? = a.tmps[t]?) ∧
  (∀ i, i < n1 → i < k → F i (a.eval (.tmp (ds.getD i 0))) w) ∧
  (∀ i j, AL.contains i = true → AL.contains j = true → i ≠ j → i < k → j < k → a.eval (.tmp (ds.getD i 0)) ≠ a.eval (.tmp (ds.getD j 0)))
 have hAlt : ∀ i, AL.contains i = true → i < n1 := fun i h => hAA i (by simpa using h)
 have key : ∀ a w i v w', I i a w → i < n1 → Below w.heap.size w w' → F i v w' → (AL.contains i = true → ∀ j, AL.contains j = true → i ≠ j → j < i → v ≠ a.eval (.tmp (ds.getD j 0))) → I (i + 1) (a.put (some (ds.getD i 0)) v) w' := by
  intro a w i v w' ⟨hb, hdf, hts, hot, hf, hne⟩ hi hb' hv hd; refine ⟨below_then hb hb.size hb', hdf, by simp [Act.put, hts], fun t ht => ?_, fun j hj hL => ?_, fun j k hj hk hjk hLj hLk => ?_⟩
  ·have : ds.getD i 0 ≠ t := fun e => ht (by rw [← e, List.getD_eq_getElem?_getD, List.getElem?_eq_getElem (by omega)]; exact List.getElem_mem _)
   show _ = (a.tmps.setIfInBounds _ _)[t]?; rw [Array.getElem?_setIfInBounds_ne this]; exact hot t ht
  ·by_cases hij : j = i
   ·subst hij; rw [eval_put_same (by rw [hts]; exact hdi _ hi)]; exact hv
   rw [eval_put_other (nodup_ne hnd (by omega) (by omega) (Ne.symm hij))]; exact hFs _ _ _ _ (hf j hj (by omega)) hb'
  have hjn := hAlt j hj; have hkn := hAlt k hk; by_cases hji : j = i
  ·subst hji; rw [eval_put_same (by rw [hts]; exact hdi _ hi), eval_put_other (nodup_ne hnd (by omega) (by omega) hjk)]; exact hd hj k hk hjk (by omega)
  by_cases hki : k = i
  ·subst hki; rw [eval_put_same (by rw [hts]; exact hdi _ hi), eval_put_other (nodup_ne hnd (by omega) (by omega) (Ne.symm hji))]; exact Ne.symm (hd hk j hj (Ne.symm hjk) (by omega))
  rw [eval_put_other (nodup_ne hnd (by omega) (by omega) (Ne.symm hji)), eval_put_other (nodup_ne hnd (by omega) (by omega) (Ne.symm hki))]; exact hne j k hj hk hjk (by omega) (by omega)
 have main : ∀ m k, m + k = n1 → ∀ a w, I k a w → wpList Tryz.prog l.toArray Q (l.drop k) a w := by
  intro m
  induction m with
  | zero =>
   intro k hk a w ⟨hb, hdf, hts, hot, hf, hne⟩; have hk1 : k = n1 := by omega
   subst hk1; have he := putAll_eq (a := a) ds a0 hdf.symm hts.symm (fun d hd => by rw [hts]; exact hdt d hd) hot; rw [← he]; refine hend (fun t => a.eval (.tmp t)) w hb (fun i hi hA => ?_) (fun i hA => ?_) (fun i j hi hj hij => hne i j hi hj hij (hAlt i hi) (hAlt j hj))
   ·have h3 : if AL.contains i then _ else _ := hf i hi hi
    rw [if_neg (by rw [hA]; simp)] at h3; exact h3
   have h3 : if AL.contains i then _ else _ := hf i (hAlt i hA) (hAlt i hA)
   rw [if_pos hA] at h3; exact h3
  | succ m ih =>
   intro i hk a w hI; have hi : i < n1 := by omega
   obtain ⟨o, ho, hdst, hg, hal⟩ := hop1 i hi
   have hcons : l.drop i = o :: l.drop (i + 1) := by
    have hlt : i < l.length := by omega
    rw [List.getElem?_eq_getElem hlt] at ho; rw [← Option.some.inj ho]; exact (List.getElem_cons_drop (h := hlt)).symm
   have next : ∀ a w, I (i + 1) a w → wpList Tryz.prog l.toArray Q (l.drop (i + 1)) a w := ih (i + 1) (by omega); rw [hcons]; unfold wpList; by_cases hA : AL.contains i = true
   ·rw [if_pos (by simp [Region.wanted, hg hA])]; refine .inl ?_; unfold Oper.wp execOp; simp only [hal hA, Sem.run_bind, hz, Result.andThen_ok, Sem.run_pure, Oper.upon, hdst]; refine next _ _ (key a w i _ _ hI hi (below_alloc (Below.refl _ _) _) ?_ ?_)
    ·show if _ then _ else _
     rw [if_pos hA]; exact ⟨_, rfl, hI.1.size, heap_alloc_new _ _⟩
    intro _ j hj hij hL; have h3 : if AL.contains j then _ else _ := hI.2.2.2.2.1 j (hAlt j hj) hL
    rw [if_pos hj] at h3; obtain ⟨g, hg1, _, hg2⟩ := h3; rw [hg1]; intro he; have := hg2.lt; injection he with he
    injection he with he
    injection he with he
    omega
   have hA' : AL.contains i = false := by simpa using hA
   have hI2 := hI; obtain ⟨hb, hdf, hts, hot, hf, hne⟩ := hI2
   have h3 := hop i hi hA' a w hb (fun t ht => by
    have := hot t (by simpa using ht); show a.tmps.getD t undef = a0.tmps.getD t undef
    simp only [Array.getD_eq_getD_getElem?, this]) (fun j hj => by
    simp only [Bool.and_eq_true, decide_eq_true_eq, Bool.not_eq_true'] at hj; have h1 : if AL.contains j then _ else _ := hf j (by omega) hj.1
    rw [if_neg (by rw [hj.2]; simp)] at h1
    exact h1)
   rw [ho] at h3; simp only at h3; rcases h3 with ⟨hw, h3⟩ | ⟨hw, hv⟩
   ·rw [if_pos hw.wanted]; refine .inl ?_; by_cases hE : E.contains i = true
    ·rw [if_pos hE] at h3; obtain ⟨v, hy, hv⟩ := h3; unfold Oper.wp; rw [hy]; show wpList _ _ _ _ (a.put o.dst v) w; rw [hdst]; exact next _ _ (key a w i v w hI hi (Below.refl _ _) (by show if _ then _ else _; rw [if_neg hA]; exact hv) (fun h => absurd h hA))
    rw [if_neg hE] at h3; refine Oper.wp_mono (fun a' w' h => ?_) h3; obtain ⟨v, rfl, hb', hv⟩ := h; exact next _ _ (key a w i v w' hI hi hb' (by show if _ then _ else _; rw [if_neg hA]; exact hv) (fun h => absurd h hA))
   rw [if_neg (by rw [hw.wanted]; simp), hdst]; exact next _ _ (key a w i undef w hI hi (Below.refl _ _) (by show if _ then _ else _; rw [if_neg hA]; exact hv) (fun h => absurd h hA))
 refine wp_region_lit ?_; have h0 := main n1 0 (by omega) a0 w0 ⟨Below.refl _ _, rfl, rfl, fun _ _ => rfl, fun i _ h => absurd h (by omega), fun i j _ _ _ h _ => absurd h (by omega)⟩; rwa [List.drop_zero] at h0
structure Ent where
 g : Nat
 t : TypeId
 vs : List Value
def Env (w : World) : List Ent → Prop
 | [] => True
 | e :: L => Blk w e.g e.t e.vs ∧ (∀ e' ∈ L, e'.g ≠ e.g) ∧ Env w L
def putL (w : World) (g o : Nat) : List Value → World
 | [] => w
 | v :: vs => putL (w.setCell ⟨g, o, none⟩ v) g (o + 1) vs
section
variable {w w' : World} {L : List Ent} {e e' : Ent} {g h i o : Nat} {t t' : TypeId} {us vs : List Value} {u v : Value}
theorem putL_far : ∀ (vs : List Value) (w : World) (o : Nat), Blk w h t us → h ≠ g → Blk (putL w g o vs) h t us
 | [], _, _, k, _ => k
 | v :: vs, w, o, k, hne => putL_far vs _ (o + 1) (k.far (p := ⟨g, o, none⟩) hne v) hne
theorem putL_below {B : Nat} {w0 : World} (hg : B ≤ g) : ∀ (vs : List Value) (w : World) (o : Nat), Below B w0 w → Below B w0 (putL w g o vs)
 | [], _, _, k => k
 | v :: vs, w, o, k => putL_below hg vs _ (o + 1) (below_set k hg v)
theorem putL_blk : ∀ (vs : List Value) (w : World) (ps us : List Value), us.length = vs.length → Blk w g t (ps ++ us) → Blk (putL w g ps.length vs) g t (ps ++ vs)
 | [], w, ps, us, hl, k => by
  obtain rfl : us = [] := List.eq_nil_of_length_eq_zero (by simpa using hl); exact k
 | v :: vs, w, ps, us, hl, k => by
  obtain ⟨u, us, rfl⟩ : ∃ u l, us = u :: l := by
   cases us with
   | nil => simp at hl
   | cons u l => exact ⟨u, l, rfl⟩
  have k1 := k.set_ ps.length v; have e1 : (ps ++ u :: us).set ps.length v = (ps ++ [v]) ++ us := by simp
  rw [e1] at k1; have k2 := putL_blk vs _ (ps ++ [v]) us (by simpa using hl) k1; rw [List.length_append, List.length_singleton] at k2; show Blk (putL _ g (ps.length + 1) vs) g t (ps ++ v :: vs); rw [show ps ++ v :: vs = (ps ++ [v]) ++ vs by simp]; exact k2
theorem putL_full (k : Blk w g t us) (hl : us.length = vs.length) : Blk (putL w g 0 vs) g t vs := putL_blk vs w [] us hl k
theorem putL_one (k : Blk w g t us) : Blk (putL w g o [v]) g t (us.set o v) := k.set_ o v
theorem Env.to : ∀ {L : List Ent}, Env w L → Below w.heap.size w w' → Env w' L
 | [], _, _ => trivial
 | e :: L, ⟨h1, h2, h3⟩, hb => ⟨h1.to hb, h2, Env.to h3 hb⟩
theorem Env.mem : ∀ {L : List Ent}, Env w L → e ∈ L → Blk w e.g e.t e.vs
 | e0 :: L, ⟨h1, h2, h3⟩, h => by
  rcases List.mem_cons.1 h with rfl | h
  ·exact h1
  exact Env.mem h3 h
theorem Env.get (k : Env w L) (i : Nat) (hi : L[i]? = some ⟨g, t, vs⟩) : Blk w g t vs := k.mem (e := ⟨g, t, vs⟩) (List.mem_of_getElem? hi)
theorem Env.cell (k : Env w L) (i o : Nat) (hi : L[i]? = some ⟨g, t, vs⟩) (ho : vs[o]? = some v) : w.cell? ⟨g, o, none⟩ = some v := ((k.get i hi).cell o).trans ho
theorem Env.addne : ∀ {L : List Ent}, Env w L → Blk w e.g e.t e.vs → (∀ e' ∈ L, e'.g ≠ e.g) → Env w (L ++ [e])
 | [], _, he, _ => ⟨he, fun e' h => (by cases h), trivial⟩
 | e0 :: L, ⟨h1, h2, h3⟩, he, hl => ⟨h1, fun e' h => by
   rcases List.mem_append.1 h with h | h
   ·exact h2 e' h
   rcases List.mem_singleton.1 h with rfl
   exact Ne.symm (hl e0 (List.mem_cons_self ..)), Env.addne h3 he (fun e' h => hl e' (List.mem_cons_of_mem _ h))⟩
theorem Env.lt (k : Env w L) : ∀ e ∈ L, e.g < w.heap.size := fun e he => (k.mem he).lt
theorem Env.new (k : Env w L) (hb : Below w.heap.size w w') (hg : w.heap.size ≤ g) (he : Blk w' g t vs) : Env w' (L ++ [⟨g, t, vs⟩]) :=
 Env.addne (e := ⟨g, t, vs⟩) (k.to hb) he (fun e' h' => Nat.ne_of_lt (Nat.lt_of_lt_of_le (k.lt e' h') hg))
theorem Env.far : ∀ {L : List Ent}, Env w L → (∀ e' ∈ L, e'.g ≠ g) → Env (putL w g o vs) L
 | [], _, _ => trivial
 | e :: L, ⟨h1, h2, h3⟩, hne => ⟨putL_far _ _ _ h1 (hne e (List.mem_cons_self ..)), h2, Env.far h3 (fun e' h => hne e' (List.mem_cons_of_mem _ h))⟩
theorem Env.put : ∀ {L : List Ent} (i : Nat) {g : Nat} {t : TypeId} {us us' : List Value}, Env w L → L[i]? = some ⟨g, t, us⟩ → Blk (putL w g o vs) g t us' → Env (putL w g o vs) (L.set i ⟨g, t, us'⟩)
 | e :: L, 0, g, t, us, us', ⟨h1, h2, h3⟩, hi, hk => by
  obtain rfl : e = ⟨g, t, us⟩ := by simpa using hi
  exact ⟨hk, h2, Env.far h3 h2⟩
 | e :: L, i + 1, g, t, us, us', ⟨h1, h2, h3⟩, hi, hk => by
  have hi' : L[i]? = some ⟨g, t, us⟩ := by simpa using hi
  have hm := List.mem_of_getElem? hi'; refine ⟨putL_far _ _ _ h1 (Ne.symm (h2 _ hm)), ?_, Env.put i h3 hi' hk⟩; intro e' he'; rcases List.mem_or_eq_of_mem_set he' with h | rfl
  ·exact h2 e' h
  exact (show g ≠ e.g from h2 ⟨g, t, us⟩ hm)
theorem Env.putF (i : Nat) (k : Env w L) (hi : L[i]? = some ⟨g, t, us⟩) (hl : us.length = vs.length) : Env (putL w g 0 vs) (L.set i ⟨g, t, vs⟩) := k.put i hi (putL_full (k.get i hi) hl)
theorem Env.putO (i : Nat) (k : Env w L) (hi : L[i]? = some ⟨g, t, us⟩) : Env (putL w g o [v]) (L.set i ⟨g, t, us.set o v⟩) := k.put i hi (putL_one (k.get i hi))
end
section
variable {w W : World} {t1 t2 t3 t4 : TypeId} {v1 v2 v3 v4 : List Value}
theorem env_more {L : List Ent} (k : Env w L) : Env (w.alloc (.cells v1.toArray t1)) (L ++ [⟨w.heap.size, t1, v1⟩]) :=
 k.new (below_alloc (Below.refl _ _) _) (Nat.le_refl _) (heap_alloc_new _ _)
theorem env_one (e : W = w.alloc (.cells v1.toArray t1)) : Env W [⟨w.heap.size, t1, v1⟩] ∧ Below w.heap.size w W := by
 subst e; exact ⟨env_more (L := []) trivial, below_alloc (Below.refl _ _) _⟩
theorem env_two (e : W = (w.alloc (.cells v1.toArray t1)).alloc (.cells v2.toArray t2)) : Env W [⟨w.heap.size, t1, v1⟩, ⟨w.heap.size + 1, t2, v2⟩] ∧ Below w.heap.size w W := by
 subst e; have a1 := env_one (w := w) (t1 := t1) (v1 := v1) rfl; have a2 := env_more (t1 := t2) (v1 := v2) a1.1; rw [show (w.alloc (.cells v1.toArray t1)).heap.size = w.heap.size + 1 by simp] at a2; exact ⟨a2, below_alloc a1.2 _⟩
theorem env_three (e : W = ((w.alloc (.cells v1.toArray t1)).alloc (.cells v2.toArray t2)).alloc (.cells v3.toArray t3)) :
  Env W [⟨w.heap.size, t1, v1⟩, ⟨w.heap.size + 1, t2, v2⟩, ⟨w.heap.size + 1 + 1, t3, v3⟩] ∧ Below w.heap.size w W := by
 subst e; have a2 := env_two (w := w) (t1 := t1) (t2 := t2) (v1 := v1) (v2 := v2) rfl; have a3 := env_more (t1 := t3) (v1 := v3) a2.1; rw [show ((w.alloc (.cells v1.toArray t1)).alloc (.cells v2.toArray t2)).heap.size = w.heap.size + 1 + 1 by simp] at a3; exact ⟨a3, below_alloc a2.2 _⟩
theorem env_four (e : W = (((w.alloc (.cells v1.toArray t1)).alloc (.cells v2.toArray t2)).alloc (.cells v3.toArray t3)).alloc (.cells v4.toArray t4)) :
  Env W [⟨w.heap.size, t1, v1⟩, ⟨w.heap.size + 1, t2, v2⟩, ⟨w.heap.size + 1 + 1, t3, v3⟩, ⟨w.heap.size + 1 + 1 + 1, t4, v4⟩] ∧ Below w.heap.size w W := by
 subst e; have a3 := env_three (w := w) (t1 := t1) (t2 := t2) (t3 := t3) (v1 := v1) (v2 := v2) (v3 := v3) rfl; have a4 := env_more (t1 := t4) (v1 := v4) a3.1; rw [show (((w.alloc (.cells v1.toArray t1)).alloc (.cells v2.toArray t2)).alloc (.cells v3.toArray t3)).heap.size = w.heap.size + 1 + 1 + 1 by simp] at a4; exact ⟨a4, below_alloc a3.2 _⟩
end
def Got (w : World) (R : Value → World → Prop) (e : Ending) (w' : World) : Prop := ∃ v, e = .returned v ∧ Below w.heap.size w w' ∧ R v w'
def isP (s t : SP) : SP := ⟨fun v w => ∃ x y, v = .tuple #[x, y] ∧ s.p x w ∧ t.p y w, fun v w w' ⟨x, y, h, h1, h2⟩ hb => ⟨x, y, h, s.st _ _ _ h1 hb, t.st _ _ _ h2 hb⟩⟩
section
variable {P : Program} {Q : Exit → Act → World → Prop} {ops : Array Oper} {rest : List Oper} {o : Oper} {a : Act} {w w' : World} {d : Nat} {R : Value → World → Prop} {f : Nat} {x1 x2 x3 x4 y : Operand} {ts : Array TypeId} {T : TypeId} {p v : Value}
theorem op_call0 (ho : o.op = .call { callee := .value (.func f), args := #[], argTypes := ts }) (hd : o.dst = some d)
  (hcf : ∀ args w, (callFunc f args).run P w = .ok (.enter f args) w) (hc : Calls P f #[] w (Got w R)) : o.wp P a w (Post a w d R) Q := op_call ho hd hcf (by simp) hc
theorem op_call1 (ho : o.op = .call { callee := .value (.func f), args := #[x1], argTypes := ts }) (hd : o.dst = some d)
  (hcf : ∀ args w, (callFunc f args).run P w = .ok (.enter f args) w) (hc : Calls P f #[a.eval x1] w (Got w R)) : o.wp P a w (Post a w d R) Q := op_call ho hd hcf (by simp) hc
theorem op_call2 (ho : o.op = .call { callee := .value (.func f), args := #[x1, x2], argTypes := ts }) (hd : o.dst = some d)
  (hcf : ∀ args w, (callFunc f args).run P w = .ok (.enter f args) w) (hc : Calls P f #[a.eval x1, a.eval x2] w (Got w R)) : o.wp P a w (Post a w d R) Q := op_call ho hd hcf (by simp) hc
theorem op_call3 (ho : o.op = .call { callee := .value (.func f), args := #[x1, x2, x3], argTypes := ts }) (hd : o.dst = some d)
  (hcf : ∀ args w, (callFunc f args).run P w = .ok (.enter f args) w) (hc : Calls P f #[a.eval x1, a.eval x2, a.eval x3] w (Got w R)) : o.wp P a w (Post a w d R) Q := op_call ho hd hcf (by simp) hc
theorem op_call4 (ho : o.op = .call { callee := .value (.func f), args := #[x1, x2, x3, x4], argTypes := ts }) (hd : o.dst = some d)
  (hcf : ∀ args w, (callFunc f args).run P w = .ok (.enter f args) w) (hc : Calls P f #[a.eval x1, a.eval x2, a.eval x3, a.eval x4] w (Got w R)) : o.wp P a w (Post a w d R) Q := op_call ho hd hcf (by simp) hc
theorem wpList_st (hg : o.guard = none) (hd : o.dst = none) (ho : o.op = .store T x1 y) (hx : a.eval x1 = p) (hy : a.eval y = v)
  (hs : (Instr.storeAt T p v).run P w = .ok () w') (h : wpList P ops Q rest a w') : wpList P ops Q (o :: rest) a w := by
 unfold wpList; rw [if_pos (by simp [Region.wanted, hg])]; refine .inl ?_; unfold Oper.wp execOp; simp only [ho, hx, hy, Sem.run_bind, hs, Result.andThen_ok, Sem.run_pure, Oper.upon, hd, Act.put]; exact h
theorem op_mv {s : SP} (ho : o.op = .move y) (hx : s.p (a.eval y) w) : ∃ v, (∀ w, (execOp a.eval o).run P w = .ok (.value v) w) ∧ s.p v w := ⟨_, op_move ho rfl, hx⟩
theorem op_fst {s t : SP} (ho : o.op = .extract y 0) (hx : (isP s t).p (a.eval y) w) : ∃ v, (∀ w, (execOp a.eval o).run P w = .ok (.value v) w) ∧ s.p v w := by
 obtain ⟨y, z, h, h1, h2⟩ := hx; exact ⟨y, op_extract ho h rfl, h1⟩
theorem op_snd {s t : SP} (ho : o.op = .extract y 1) (hx : (isP s t).p (a.eval y) w) : ∃ v, (∀ w, (execOp a.eval o).run P w = .ok (.value v) w) ∧ t.p v w := by
 obtain ⟨y, z, h, h1, h2⟩ := hx; exact ⟨z, op_extract ho h rfl, h2⟩
theorem pure_b {R : Value → Prop} {u u' : Value} {w : World} (h : u = u') (hc : ∃ v, R v ∧ (isV u).p v w) : ∃ v, R v ∧ (isV u').p v w := by
 subst h; exact hc
theorem wp_b {u u' : Value} (h : u = u') (hc : o.wp P a w (Post a w d (isV u).p) Q) : o.wp P a w (Post a w d (isV u').p) Q := by
 subst h; exact hc
theorem bool_eq {b b' : Bool} (h : b = b') : Value.bool b = .bool b' := by rw [h]
theorem int_eq {b b' : Int} (h : b = b') : Value.int .i64 b = .int .i64 b' := by rw [h]
end
section
variable {Q : Exit → Act → World → Prop} {o : Oper} {a : Act} {w : World} {d : Nat} {g off : Nat} {x y z zz : Operand} {ty : TypeId} {b b1 b2 b3 b4 : Int} {c : Bool} {A : Option Addr} {n k : Nat} {m i j : Int}
theorem ld_I {v : Value} (h : w.cell? ⟨g, off, none⟩ = some v) : (Instr.loadAt 3 (.pointer (some ⟨g, off, none⟩))).run Tryz.prog w = .ok v w := by
 simp [go_sem, h]
theorem op_ldI {v : Value} (ho : o.op = .load 3 x) (hd : o.dst = some d) (hx : a.eval x = .pointer (some ⟨g, off, none⟩)) (h : w.cell? ⟨g, off, none⟩ = some v) : o.wp Tryz.prog a w (Post a w d (isV v).p) Q := op_load ho hd hx (ld_I h) rfl
theorem ld_B {v : Value} (h : w.cell? ⟨g, off, none⟩ = some v) : (Instr.loadAt 4 (.pointer (some ⟨g, off, none⟩))).run Tryz.prog w = .ok v w := by
 simp [go_sem, h]
theorem op_ldB {v : Value} (ho : o.op = .load 4 x) (hd : o.dst = some d) (hx : a.eval x = .pointer (some ⟨g, off, none⟩)) (h : w.cell? ⟨g, off, none⟩ = some v) : o.wp Tryz.prog a w (Post a w d (isV v).p) Q := op_load ho hd hx (ld_B h) rfl
theorem ld_S {v : Value} (h : w.cell? ⟨g, off, none⟩ = some v) : (Instr.loadAt 41 (.pointer (some ⟨g, off, none⟩))).run Tryz.prog w = .ok v w := by
 simp [go_sem, h]
theorem op_ldS {v : Value} (ho : o.op = .load 41 x) (hd : o.dst = some d) (hx : a.eval x = .pointer (some ⟨g, off, none⟩)) (h : w.cell? ⟨g, off, none⟩ = some v) : o.wp Tryz.prog a w (Post a w d (isV v).p) Q := op_load ho hd hx (ld_S h) rfl
theorem lds_T {t : TypeId} {p q r : Value} (h : Blk w g t [p, q, r]) : (Instr.loadAt 43 (.pointer (some ⟨g, 0, none⟩))).run Tryz.prog w = .ok (.agg #[p, q, r]) w := by
 have h0 := h.cell 0; have h1 := h.cell 1; have h2 := h.cell 2; simp at h0 h1 h2; simp [go_sem, h0, h1, h2]
theorem op_ldT {t : TypeId} {p q r : Value} (ho : o.op = .load 43 x) (hd : o.dst = some d) (hx : a.eval x = .pointer (some ⟨g, 0, none⟩)) (h : Blk w g t [p, q, r]) : o.wp Tryz.prog a w (Post a w d (isV (.agg #[p, q, r])).p) Q := op_load ho hd hx (lds_T h) rfl
theorem lds_M {t : TypeId} {p q r s : Value} (h : Blk w g t [p, q, r, s]) : (Instr.loadAt 65 (.pointer (some ⟨g, 0, none⟩))).run Tryz.prog w = .ok (.agg #[p, q, r, s]) w := by
 have h0 := h.cell 0; have h1 := h.cell 1; have h2 := h.cell 2; have h3 := h.cell 3; simp at h0 h1 h2 h3; simp [go_sem, h0, h1, h2, h3]
theorem op_ldM {t : TypeId} {p q r s : Value} (ho : o.op = .load 65 x) (hd : o.dst = some d) (hx : a.eval x = .pointer (some ⟨g, 0, none⟩)) (h : Blk w g t [p, q, r, s]) : o.wp Tryz.prog a w (Post a w d (isV (.agg #[p, q, r, s])).p) Q := op_load ho hd hx (lds_M h) rfl
theorem lds_N {t : TypeId} {p q r s : Value} (h : Blk w g t [p, q, r, s]) : (Instr.loadAt 56 (.pointer (some ⟨g, 0, none⟩))).run Tryz.prog w = .ok (.agg #[p, q, r, s]) w := by
 have h0 := h.cell 0; have h1 := h.cell 1; have h2 := h.cell 2; have h3 := h.cell 3; simp at h0 h1 h2 h3; simp [go_sem, h0, h1, h2, h3]
theorem op_ldN {t : TypeId} {p q r s : Value} (ho : o.op = .load 56 x) (hd : o.dst = some d) (hx : a.eval x = .pointer (some ⟨g, 0, none⟩)) (h : Blk w g t [p, q, r, s]) : o.wp Tryz.prog a w (Post a w d (isV (.agg #[p, q, r, s])).p) Q := op_load ho hd hx (lds_N h) rfl
theorem lds_Z {t : TypeId} {p q : Value} (h : Blk w g t [p, q]) : (Instr.loadAt 63 (.pointer (some ⟨g, 0, none⟩))).run Tryz.prog w = .ok (.agg #[p, q]) w := by
 have h0 := h.cell 0; have h1 := h.cell 1; simp at h0 h1; simp [go_sem, h0, h1]
theorem op_ldZ {t : TypeId} {p q : Value} (ho : o.op = .load 63 x) (hd : o.dst = some d) (hx : a.eval x = .pointer (some ⟨g, 0, none⟩)) (h : Blk w g t [p, q]) : o.wp Tryz.prog a w (Post a w d (isV (.agg #[p, q])).p) Q := op_load ho hd hx (lds_Z h) rfl
theorem op_faT0 (ho : o.op = .fieldAddr 43 x 0) (hx : a.eval x = .pointer (some ⟨g, off, none⟩)) (w : World) : (execOp a.eval o).run Tryz.prog w = .ok (.value (.pointer (some ⟨g, off + 0, none⟩))) w := by
 unfold execOp; simp only [ho, hx]; simp [go_sem]
theorem op_faT1 (ho : o.op = .fieldAddr 43 x 1) (hx : a.eval x = .pointer (some ⟨g, off, none⟩)) (w : World) : (execOp a.eval o).run Tryz.prog w = .ok (.value (.pointer (some ⟨g, off + 1, none⟩))) w := by
 unfold execOp; simp only [ho, hx]; simp [go_sem]
theorem op_faT2 (ho : o.op = .fieldAddr 43 x 2) (hx : a.eval x = .pointer (some ⟨g, off, none⟩)) (w : World) : (execOp a.eval o).run Tryz.prog w = .ok (.value (.pointer (some ⟨g, off + 2, none⟩))) w := by
 unfold execOp; simp only [ho, hx]; simp [go_sem]
theorem op_faU0 (ho : o.op = .fieldAddr 45 x 0) (hx : a.eval x = .pointer (some ⟨g, off, none⟩)) (w : World) : (execOp a.eval o).run Tryz.prog w = .ok (.value (.pointer (some ⟨g, off + 0, none⟩))) w := by
 unfold execOp; simp only [ho, hx]; simp [go_sem]
theorem op_faU1 (ho : o.op = .fieldAddr 45 x 1) (hx : a.eval x = .pointer (some ⟨g, off, none⟩)) (w : World) : (execOp a.eval o).run Tryz.prog w = .ok (.value (.pointer (some ⟨g, off + 1, none⟩))) w := by
 unfold execOp; simp only [ho, hx]; simp [go_sem]
theorem op_faU2 (ho : o.op = .fieldAddr 45 x 2) (hx : a.eval x = .pointer (some ⟨g, off, none⟩)) (w : World) : (execOp a.eval o).run Tryz.prog w = .ok (.value (.pointer (some ⟨g, off + 2, none⟩))) w := by
 unfold execOp; simp only [ho, hx]; simp [go_sem]
theorem op_faM0 (ho : o.op = .fieldAddr 65 x 0) (hx : a.eval x = .pointer (some ⟨g, off, none⟩)) (w : World) : (execOp a.eval o).run Tryz.prog w = .ok (.value (.pointer (some ⟨g, off + 0, none⟩))) w := by
 unfold execOp; simp only [ho, hx]; simp [go_sem]
theorem op_faM1 (ho : o.op = .fieldAddr 65 x 1) (hx : a.eval x = .pointer (some ⟨g, off, none⟩)) (w : World) : (execOp a.eval o).run Tryz.prog w = .ok (.value (.pointer (some ⟨g, off + 1, none⟩))) w := by
 unfold execOp; simp only [ho, hx]; simp [go_sem]
theorem op_faM2 (ho : o.op = .fieldAddr 65 x 2) (hx : a.eval x = .pointer (some ⟨g, off, none⟩)) (w : World) : (execOp a.eval o).run Tryz.prog w = .ok (.value (.pointer (some ⟨g, off + 2, none⟩))) w := by
 unfold execOp; simp only [ho, hx]; simp [go_sem]
theorem op_faM3 (ho : o.op = .fieldAddr 65 x 3) (hx : a.eval x = .pointer (some ⟨g, off, none⟩)) (w : World) : (execOp a.eval o).run Tryz.prog w = .ok (.value (.pointer (some ⟨g, off + 3, none⟩))) w := by
 unfold execOp; simp only [ho, hx]; simp [go_sem]
theorem op_faN0 (ho : o.op = .fieldAddr 56 x 0) (hx : a.eval x = .pointer (some ⟨g, off, none⟩)) (w : World) : (execOp a.eval o).run Tryz.prog w = .ok (.value (.pointer (some ⟨g, off + 0, none⟩))) w := by
 unfold execOp; simp only [ho, hx]; simp [go_sem]
theorem op_faN1 (ho : o.op = .fieldAddr 56 x 1) (hx : a.eval x = .pointer (some ⟨g, off, none⟩)) (w : World) : (execOp a.eval o).run Tryz.prog w = .ok (.value (.pointer (some ⟨g, off + 1, none⟩))) w := by
 unfold execOp; simp only [ho, hx]; simp [go_sem]
theorem op_faN2 (ho : o.op = .fieldAddr 56 x 2) (hx : a.eval x = .pointer (some ⟨g, off, none⟩)) (w : World) : (execOp a.eval o).run Tryz.prog w = .ok (.value (.pointer (some ⟨g, off + 2, none⟩))) w := by
 unfold execOp; simp only [ho, hx]; simp [go_sem]
theorem op_faN3 (ho : o.op = .fieldAddr 56 x 3) (hx : a.eval x = .pointer (some ⟨g, off, none⟩)) (w : World) : (execOp a.eval o).run Tryz.prog w = .ok (.value (.pointer (some ⟨g, off + 3, none⟩))) w := by
 unfold execOp; simp only [ho, hx]; simp [go_sem]
theorem op_faZ0 (ho : o.op = .fieldAddr 63 x 0) (hx : a.eval x = .pointer (some ⟨g, off, none⟩)) (w : World) : (execOp a.eval o).run Tryz.prog w = .ok (.value (.pointer (some ⟨g, off + 0, none⟩))) w := by
 unfold execOp; simp only [ho, hx]; simp [go_sem]
theorem op_faZ1 (ho : o.op = .fieldAddr 63 x 1) (hx : a.eval x = .pointer (some ⟨g, off, none⟩)) (w : World) : (execOp a.eval o).run Tryz.prog w = .ok (.value (.pointer (some ⟨g, off + 1, none⟩))) w := by
 unfold execOp; simp only [ho, hx]; simp [go_sem]
theorem sto_T {t : TypeId} {p q r : Value} (h : Blk w g t [p, q, r]) : (Instr.storeAt 43 (.pointer (some ⟨g, 0, none⟩)) (.agg #[.int .i64 b1, .int .i64 b2, .slice A n k])).run Tryz.prog w = .ok () (putL w g 0 [.int .i64 b1, .int .i64 b2, .slice A n k]) := by
 have h0 := h.cell 0; have h1 := h.cell 1; have h2 := h.cell 2; simp at h0 h1 h2; have f0 := h.frozen 0; have f1 := h.frozen 1; have f2 := h.frozen 2; have f3 := h.frozen 3; simp only [putL]; simp [go_sem, h0, h1, h2, f0, f1, f2, f3]
theorem sto_U {t : TypeId} {p q r : Value} (h : Blk w g t [p, q, r]) : (Instr.storeAt 45 (.pointer (some ⟨g, 0, none⟩)) (.agg #[.int .i64 b1, .int .i64 b2, .slice A n k])).run Tryz.prog w = .ok () (putL w g 0 [.int .i64 b1, .int .i64 b2, .slice A n k]) := by
 have h0 := h.cell 0; have h1 := h.cell 1; have h2 := h.cell 2; simp at h0 h1 h2; have f0 := h.frozen 0; have f1 := h.frozen 1; have f2 := h.frozen 2; have f3 := h.frozen 3; simp only [putL]; simp [go_sem, h0, h1, h2, f0, f1, f2, f3]
theorem sto_M {t : TypeId} {p q r s : Value} (h : Blk w g t [p, q, r, s]) : (Instr.storeAt 65 (.pointer (some ⟨g, 0, none⟩)) (.agg #[.int .i64 b1, .int .i64 b2, .int .i64 b3, .bool c])).run Tryz.prog w = .ok () (putL w g 0 [.int .i64 b1, .int .i64 b2, .int .i64 b3, .bool c]) := by
 have h0 := h.cell 0; have h1 := h.cell 1; have h2 := h.cell 2; have h3 := h.cell 3; simp at h0 h1 h2 h3; have f0 := h.frozen 0; have f1 := h.frozen 1; have f2 := h.frozen 2; have f3 := h.frozen 3; simp only [putL]; simp [go_sem, h0, h1, h2, h3, f0, f1, f2, f3]
theorem sto_N {t : TypeId} {p q r s : Value} (h : Blk w g t [p, q, r, s]) : (Instr.storeAt 56 (.pointer (some ⟨g, 0, none⟩)) (.agg #[.int .i64 b1, .int .i64 b2, .int .i64 b3, .bool c])).run Tryz.prog w = .ok () (putL w g 0 [.int .i64 b1, .int .i64 b2, .int .i64 b3, .bool c]) := by
 have h0 := h.cell 0; have h1 := h.cell 1; have h2 := h.cell 2; have h3 := h.cell 3; simp at h0 h1 h2 h3; have f0 := h.frozen 0; have f1 := h.frozen 1; have f2 := h.frozen 2; have f3 := h.frozen 3; simp only [putL]; simp [go_sem, h0, h1, h2, h3, f0, f1, f2, f3]
theorem sto_Z {t : TypeId} {p q : Value} (h : Blk w g t [p, q]) : (Instr.storeAt 63 (.pointer (some ⟨g, 0, none⟩)) (.agg #[.int .i64 b1, .int .i64 b2])).run Tryz.prog w = .ok () (putL w g 0 [.int .i64 b1, .int .i64 b2]) := by
 have h0 := h.cell 0; have h1 := h.cell 1; simp at h0 h1; have f0 := h.frozen 0; have f1 := h.frozen 1; have f2 := h.frozen 2; have f3 := h.frozen 3; simp only [putL]; simp [go_sem, h0, h1, f0, f1, f2, f3]
theorem sto_I {t : TypeId} {us : List Value} {v : Value} (h : Blk w g t us) (hv : us[off]? = some v) : (Instr.storeAt 3 (.pointer (some ⟨g, off, none⟩)) (.int .i64 b)).run Tryz.prog w = .ok () (putL w g off [.int .i64 b]) := by
 have h0 := (h.cell off).trans hv; have f0 := h.frozen off; simp only [putL]; simp [go_sem, h0, f0]
theorem op_buT (ho : o.op = .build 43 #[(0, x), (1, y), (2, z)]) (h0 : a.eval x = .int .i64 b1) (h1 : a.eval y = .int .i64 b2) (h2 : a.eval z = .slice A n k) (w : World) : (execOp a.eval o).run Tryz.prog w = .ok (.value (.agg #[.int .i64 b1, .int .i64 b2, .slice A n k])) w := by
 generalize a.eval = ev at h0 h1 h2 ⊢; unfold execOp; simp only [ho]; simp [go_sem, h0, h1, h2]
theorem op_buU (ho : o.op = .build 45 #[(0, x), (1, y), (2, z)]) (h0 : a.eval x = .int .i64 b1) (h1 : a.eval y = .int .i64 b2) (h2 : a.eval z = .slice A n k) (w : World) : (execOp a.eval o).run Tryz.prog w = .ok (.value (.agg #[.int .i64 b1, .int .i64 b2, .slice A n k])) w := by
 generalize a.eval = ev at h0 h1 h2 ⊢; unfold execOp; simp only [ho]; simp [go_sem, h0, h1, h2]
theorem op_buZ (ho : o.op = .build 63 #[(0, x), (1, y)]) (h0 : a.eval x = .int .i64 b1) (h1 : a.eval y = .int .i64 b2) (w : World) : (execOp a.eval o).run Tryz.prog w = .ok (.value (.agg #[.int .i64 b1, .int .i64 b2])) w := by
 generalize a.eval = ev at h0 h1 ⊢; unfold execOp; simp only [ho]; simp [go_sem, h0, h1]
theorem op_buM (ho : o.op = .build 65 #[(0, x), (1, y), (2, z), (3, zz)]) (h0 : a.eval x = .int .i64 b1) (h1 : a.eval y = .int .i64 b2) (h2 : a.eval z = .int .i64 b3) (h3 : a.eval zz = .bool c) (w : World) : (execOp a.eval o).run Tryz.prog w = .ok (.value (.agg #[.int .i64 b1, .int .i64 b2, .int .i64 b3, .bool c])) w := by
 generalize a.eval = ev at h0 h1 h2 h3 ⊢; unfold execOp; simp only [ho]; simp [go_sem, h0, h1, h2, h3]
theorem op_b0M (ho : o.op = .build 65 #[]) (w : World) : (execOp a.eval o).run Tryz.prog w = .ok (.value (.agg #[.int .i64 0, .int .i64 0, .int .i64 0, .bool false])) w := by
 unfold execOp; simp only [ho]; simp [go_sem]
theorem alloc_T (w : World) : (Instr.alloc 43 true (.tuple #[])).run Tryz.prog w = .ok (.pointer (some ⟨w.heap.size, 0, none⟩)) (w.alloc (.cells [.int .i64 0, .int .i64 0, .slice none 0 0].toArray 43)) := by
 simp [go_sem]
theorem alloc_M (w : World) : (Instr.alloc 65 true (.tuple #[])).run Tryz.prog w = .ok (.pointer (some ⟨w.heap.size, 0, none⟩)) (w.alloc (.cells [.int .i64 0, .int .i64 0, .int .i64 0, .bool false].toArray 65)) := by
 simp [go_sem]
theorem alloc_N (w : World) : (Instr.alloc 56 true (.tuple #[])).run Tryz.prog w = .ok (.pointer (some ⟨w.heap.size, 0, none⟩)) (w.alloc (.cells [.int .i64 0, .int .i64 0, .int .i64 0, .bool false].toArray 56)) := by
 simp [go_sem]
theorem alloc_Z (w : World) : (Instr.alloc 63 true (.tuple #[])).run Tryz.prog w = .ok (.pointer (some ⟨w.heap.size, 0, none⟩)) (w.alloc (.cells [.int .i64 0, .int .i64 0].toArray 63)) := by
 simp [go_sem]
def Fit (i : Int) : Prop := -9223372036854775808 ≤ i ∧ i ≤ 9223372036854775807
theorem wrap_fit (h : Fit i) : IntKind.i64.wrap i = i := by
 unfold Fit at h; unfold IntKind.wrap; simp [IntKind.signed, IntKind.bits]; omega
theorem op_add (hf : Fit (i + j)) (ho : o.op = .binOp .add 3 x y ty) (hx : a.eval x = .int .i64 i) (hy : a.eval y = .int .i64 j) (w : World) : (execOp a.eval o).run Tryz.prog w = .ok (.value (.int .i64 (i + j))) w := by
 have hw := wrap_fit hf; generalize a.eval = ev at hx hy ⊢; unfold execOp; simp only [ho, hx, hy]; simp [go_sem, hw]
theorem op_sub (hf : Fit (i - j)) (ho : o.op = .binOp .sub 3 x y ty) (hx : a.eval x = .int .i64 i) (hy : a.eval y = .int .i64 j) (w : World) : (execOp a.eval o).run Tryz.prog w = .ok (.value (.int .i64 (i - j))) w := by
 have hw := wrap_fit hf; generalize a.eval = ev at hx hy ⊢; unfold execOp; simp only [ho, hx, hy]; simp [go_sem, hw]
theorem op_mul (hf : Fit (i * j)) (ho : o.op = .binOp .mul 3 x y ty) (hx : a.eval x = .int .i64 i) (hy : a.eval y = .int .i64 j) (w : World) : (execOp a.eval o).run Tryz.prog w = .ok (.value (.int .i64 (i * j))) w := by
 have hw := wrap_fit hf; generalize a.eval = ev at hx hy ⊢; unfold execOp; simp only [ho, hx, hy]; simp [go_sem, hw]
end
end Go.Proofs.YtddbmckbankmeaaGreat
set_option linter.unusedVariables false
set_option linter.unusedSimpArgs false
namespace Go.Proofs.YtddbmckbankmeaaGreat
open Go.RowKit
theorem run_max2_int (k k' : IntKind) (x y : Int) : Builtin.max2 (.int k x) (.int k' y) = pure (.int k (if x < y then y else x)) := by simp only [Builtin.max2, gt_iff_lt]
theorem run_min2_int (k k' : IntKind) (x y : Int) : Builtin.min2 (.int k x) (.int k' y) = pure (.int k (if y < x then y else x)) := by simp only [Builtin.min2]
theorem run_max_two (ats : Array TypeId) (ty : TypeId) (a b : Value) : Builtin.max_ ats ty #[a, b] = (Builtin.max2 a b >>= fun s => pure s) := by simp only [Builtin.max_, List.foldlM_cons, List.foldlM_nil]
theorem run_min_two (ats : Array TypeId) (ty : TypeId) (a b : Value) : Builtin.min_ ats ty #[a, b] = (Builtin.min2 a b >>= fun s => pure s) := by simp only [Builtin.min_, List.foldlM_cons, List.foldlM_nil]
attribute [local go_sem] run_max2_int run_max_two run_min2_int run_min_two
section
variable {Q : Exit → Act → World → Prop} {o : Oper} {a : Act} {w : World} {d : Nat} {g off : Nat} {x y z : Operand} {ty : TypeId} {b c : Bool} {A : Option Addr} {n k : Nat} {m i j : Int} {v v' : Value}
theorem op_lssI (ho : o.op = .binOp .lss 3 x y ty) (hx : a.eval x = .int .i64 i) (hy : a.eval y = .int .i64 j) (w : World) : (execOp a.eval o).run Tryz.prog w = .ok (.value (.bool (decide (i < j)))) w := by
 generalize a.eval = ev at hx hy ⊢; unfold execOp; simp only [ho, hx, hy]; simp [go_sem]
  
theorem op_leqI (ho : o.op = .binOp .leq 3 x y ty) (hx : a.eval x = .int .i64 i) (hy : a.eval y = .int .i64 j) (w : World) : (execOp a.eval o).run Tryz.prog w = .ok (.value (.bool (decide (i ≤ j)))) w := by
 generalize a.eval = ev at hx hy ⊢; unfold execOp; simp only [ho, hx, hy]; simp [go_sem]
  
theorem op_gtrI (ho : o.op = .binOp .gtr 3 x y ty) (hx : a.eval x = .int .i64 i) (hy : a.eval y = .int .i64 j) (w : World) : (execOp a.eval o).run Tryz.prog w = .ok (.value (.bool (decide (j < i)))) w := by
 generalize a.eval = ev at hx hy ⊢; unfold execOp; simp only [ho, hx, hy]; simp [go_sem]
  
theorem op_geqI (ho : o.op = .binOp .geq 3 x y ty) (hx : a.eval x = .int .i64 i) (hy : a.eval y = .int .i64 j) (w : World) : (execOp a.eval o).run Tryz.prog w = .ok (.value (.bool (decide (j ≤ i)))) w := by
 generalize a.eval = ev at hx hy ⊢; unfold execOp; simp only [ho, hx, hy]; simp [go_sem]
  
theorem op_eqlI (ho : o.op = .binOp .eql 3 x y ty) (hx : a.eval x = .int .i64 i) (hy : a.eval y = .int .i64 j) (w : World) : (execOp a.eval o).run Tryz.prog w = .ok (.value (.bool (decide (i = j)))) w := by
 generalize a.eval = ev at hx hy ⊢; unfold execOp; simp only [ho, hx, hy]; simp [go_sem]; rfl
theorem op_neqI (ho : o.op = .binOp .neq 3 x y ty) (hx : a.eval x = .int .i64 i) (hy : a.eval y = .int .i64 j) (w : World) : (execOp a.eval o).run Tryz.prog w = .ok (.value (.bool (!decide (i = j)))) w := by
 generalize a.eval = ev at hx hy ⊢; unfold execOp; simp only [ho, hx, hy]; simp [go_sem]; rfl
theorem op_eqlE (ho : o.op = .binOp .eql 26 x y ty) (hx : a.eval x = .int .i64 i) (hy : a.eval y = .int .i64 j) (w : World) : (execOp a.eval o).run Tryz.prog w = .ok (.value (.bool (decide (i = j)))) w := by
 generalize a.eval = ev at hx hy ⊢; unfold execOp; simp only [ho, hx, hy]; simp [go_sem]; rfl
theorem op_neqE (ho : o.op = .binOp .neq 26 x y ty) (hx : a.eval x = .int .i64 i) (hy : a.eval y = .int .i64 j) (w : World) : (execOp a.eval o).run Tryz.prog w = .ok (.value (.bool (!decide (i = j)))) w := by
 generalize a.eval = ev at hx hy ⊢; unfold execOp; simp only [ho, hx, hy]; simp [go_sem]; rfl
theorem op_neqB (ho : o.op = .binOp .neq 4 x y ty) (hx : a.eval x = .bool b) (hy : a.eval y = .bool c) (w : World) : (execOp a.eval o).run Tryz.prog w = .ok (.value (.bool (b != c))) w := by
 generalize a.eval = ev at hx hy ⊢; unfold execOp; simp only [ho, hx, hy]; cases b <;> cases c <;> simp [go_sem]
theorem op_rem (h0 : 0 < j) (hi : Fit i) (hi2 : i ≠ -9223372036854775808) (ho : o.op = .binOp .rem 3 x y ty) (hx : a.eval x = .int .i64 i) (hy : a.eval y = .int .i64 j) (w : World) : (execOp a.eval o).run Tryz.prog w = .ok (.value (.int .i64 (i.tmod j))) w := by
 have hj0 : ¬ j = 0 := by omega
 have hj1 : ¬ j = -1 := by omega
 have hf : Fit (i.tmod j) := by
  unfold Fit at hi ⊢; have h1 := Int.natAbs_tmod i j; have h2 := Nat.mod_le i.natAbs j.natAbs; omega
 have hw := wrap_fit hf; generalize a.eval = ev at hx hy ⊢; unfold execOp; simp only [ho, hx, hy]; simp [go_sem, hj0, hj1, hw]
theorem op_quo (h0 : 0 < j) (hi : Fit i) (hi2 : i ≠ -9223372036854775808) (ho : o.op = .binOp .quo 3 x y ty) (hx : a.eval x = .int .i64 i) (hy : a.eval y = .int .i64 j) (w : World) : (execOp a.eval o).run Tryz.prog w = .ok (.value (.int .i64 (i.tdiv j))) w := by
 have hj0 : ¬ j = 0 := by omega
 have hj1 : ¬ j = -1 := by omega
 have hf : Fit (i.tdiv j) := by
  unfold Fit at hi ⊢; have h2 := Int.natAbs_tdiv_le_natAbs i j; omega
 have hw := wrap_fit hf; generalize a.eval = ev at hx hy ⊢; unfold execOp; simp only [ho, hx, hy]; simp [go_sem, hj0, hj1, hw]
theorem op_not (ho : o.op = .unOp .not 4 x) (hx : a.eval x = .bool b) (w : World) : (execOp a.eval o).run Tryz.prog w = .ok (.value (.bool (!b))) w := by
 unfold execOp; simp only [ho, hx]; simp [go_sem]
theorem op_pickT (ho : o.op = .pick x y z) (hx : a.eval x = .bool true) (hy : a.eval y = v) (w : World) : (execOp a.eval o).run Tryz.prog w = .ok (.value v) w := by
 unfold execOp; simp only [ho, hx, hy]; simp [go_sem]
theorem op_pickF (ho : o.op = .pick x y z) (hx : a.eval x = .bool false) (hz : a.eval z = v) (w : World) : (execOp a.eval o).run Tryz.prog w = .ok (.value v) w := by
 unfold execOp; simp only [ho, hx, hz]; simp [go_sem]
theorem op_len (ho : o.op = .call { callee := .builtin .len, args := #[x], argTypes := #[41] }) (hd : o.dst = some d) (hx : a.eval x = .slice A n k) : o.wp Tryz.prog a w (Post a w d (isV (.int .i64 (n : Int))).p) Q := by
 refine op_run (v := .int .i64 (n : Int)) hd ?_ rfl; generalize a.eval = ev at hx ⊢; unfold execOp; simp only [ho]; simp [go_sem, hx]
theorem op_max (ho : o.op = .call { callee := .builtin .max, args := #[x, y], argTypes := #[3, 3] }) (hd : o.dst = some d) (hx : a.eval x = .int .i64 i) (hy : a.eval y = .int .i64 j) : o.wp Tryz.prog a w (Post a w d (isV (.int .i64 (if i < j then j else i))).p) Q := by
 refine op_run (v := .int .i64 (if i < j then j else i)) hd ?_ rfl; generalize a.eval = ev at hx hy ⊢; unfold execOp; simp only [ho]; simp [go_sem, hx, hy]
theorem op_min (ho : o.op = .call { callee := .builtin .min, args := #[x, y], argTypes := #[3, 3] }) (hd : o.dst = some d) (hx : a.eval x = .int .i64 i) (hy : a.eval y = .int .i64 j) : o.wp Tryz.prog a w (Post a w d (isV (.int .i64 (if j < i then j else i))).p) Q := by
 refine op_run (v := .int .i64 (if j < i then j else i)) hd ?_ rfl; generalize a.eval = ev at hx hy ⊢; unfold execOp; simp only [ho]; simp [go_sem, hx, hy]
theorem op_idx {ad : Addr} (h0 : 0 ≤ i) (h1 : i < (n : Int)) (ho : o.op = .indexAddr 41 x y) (hx : a.eval x = .slice (some ad) n k) (hy : a.eval y = .int .i64 i) (w : World) : (execOp a.eval o).run Tryz.prog w = .ok (.value (.pointer (some (ad.add i.toNat)))) w := by
 generalize a.eval = ev at hx hy ⊢; unfold execOp; simp only [ho, hx, hy]; simp [go_sem, h0, h1]
theorem ld_at {p : Addr} (h : w.cell? p = some v) : (Instr.loadAt 3 (.pointer (some p))).run Tryz.prog w = .ok v w := by
 simp [go_sem, h]
theorem op_ldAt {p : Addr} (ho : o.op = .load 3 x) (hd : o.dst = some d) (hx : a.eval x = .pointer (some p)) (h : w.cell? p = some v) : o.wp Tryz.prog a w (Post a w d (isV v).p) Q := op_load ho hd hx (ld_at h) rfl
theorem Tryz.info_int : (Tryz.prog.info? 3).map (fun i => (i.zero, i.size, i.bytes)) = some (some (.int .i64 0), 1, 8) := by kernel_rfl
theorem ints_zeros (n : Nat) : List.replicate n (Value.int .i64 0) = ints (List.replicate n 0) := by simp [ints]
set_option maxRecDepth 100000 in
theorem make_ints (n : Nat) (hn : n ≤ 17592186044416) (w : World) :
  (Instr.makeSlice 41 (.int .i64 (n : Int)) (.int .i64 (n : Int))).run Tryz.prog w = .ok (.slice (some ⟨w.heap.size, 0, none⟩) n n) (w.alloc (.cells (ints (List.replicate n 0)).toArray 3)) := by
 obtain ⟨i0, hi, hz0, hz1, hz2⟩ := info_parts Tryz.info_int; have hb : (i0.bytes : Int) * (n : Int) ≤ 281474976710656 := by rw [hz2]; omega
 have hr := run_make (P := Tryz.prog) w 41 3 i0 (.int .i64 0) (by kernel_rfl) hi hz0 .i64 .i64 n n (by omega) (by omega) hb (by omega); simp only [Int.toNat_natCast] at hr; rw [hr]; congr 3
 rw [← ints_zeros, hz1]; apply Array.ext
 ·simp [madeCells]
 intro i h1 h2; simp [madeCells, Value.cells, Nat.mod_one]
def isF (lo : Nat) (xs : List Int) : SP := ⟨fun v w => ∃ g k rest, v = .slice (some ⟨g, 0, none⟩) xs.length k ∧ lo ≤ g ∧ xs.length ≤ k ∧ k ≤ 9223372036854775807 ∧ Blk w g 3 (ints xs ++ rest), fun v w w' ⟨g, k, rest, h1, h2, h3, h4, h5⟩ hb => ⟨g, k, rest, h1, h2, h3, h4, h5.to hb⟩⟩
theorem op_make (hn : n ≤ 17592186044416) (ho : o.op = .makeSlice 41 x y) (hd : o.dst = some d) (hx : a.eval x = .int .i64 (n : Int)) (hy : a.eval y = .int .i64 (n : Int)) (lo : Nat) (hl : lo ≤ w.heap.size) : o.wp Tryz.prog a w (Post a w d (isF lo (List.replicate n 0)).p) Q := by
 have hr : (execOp a.eval o).run Tryz.prog w = .ok (.value (.slice (some ⟨w.heap.size, 0, none⟩) n n)) (w.alloc (.cells (ints (List.replicate n 0)).toArray 3)) := by
  unfold execOp; simp only [ho, hx, hy, Sem.run_bind, make_ints n hn, Result.andThen_ok, Sem.run_pure]
 unfold Oper.wp; rw [hr]; show Post a w d _ (a.put o.dst _) _; rw [hd]; have hB : Blk (w.alloc (.cells (ints (List.replicate n 0)).toArray 3)) w.heap.size 3 (ints (List.replicate n 0)) := heap_alloc_new _ _; refine ⟨_, rfl, below_alloc (Below.refl _ _) _, w.heap.size, n, [], by simp, hl, by simp, by omega, by simpa using hB⟩
end
theorem tmod_nonneg {i j : Int} (h : 0 ≤ i) : i.tmod j = i % j := Int.tmod_eq_emod_of_nonneg h
theorem tdiv_nonneg {i j : Int} (h : 0 ≤ i) : i.tdiv j = i / j := Int.tdiv_eq_ediv_of_nonneg h
theorem tmod_wrap {i j : Int} (hj : 0 < j) : (i.tmod j + j).tmod j = i % j := by
 have h1 : 0 ≤ i.tmod j + j := by
  have h2 := Int.natAbs_tmod i j; have h3 := Nat.mod_lt i.natAbs (show 0 < j.natAbs by omega); omega
 rw [tmod_nonneg h1, Int.add_emod_right]; have h4 := Int.mul_tdiv_add_tmod i j; conv => rhs; rw [← h4, Int.mul_add_emod_self_left]
theorem tmod_bound {i j : Int} (hj : 0 < j) : -j < i.tmod j ∧ i.tmod j < j := by
 have h2 := Int.natAbs_tmod i j; have h3 := Nat.mod_lt i.natAbs (show 0 < j.natAbs by omega); omega
end Go.Proofs.YtddbmckbankmeaaGreat
