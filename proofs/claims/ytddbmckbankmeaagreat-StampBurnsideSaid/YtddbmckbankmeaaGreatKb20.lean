/- Part 20 of the texts behind this claim. -/
import Derived.Sort.Grow
import Derived.Maps.OwnOps
import Derived.Maps.Views
import Derived.Maps.OwnSet
import Derived.WideKeyArgs2
import Derived.DeepKeys4
import Derived.MapViews
import Derived.ChangeSame
import Derived.Lib.SmallJoins
import Derived.Test.YtddbmckbankmeaaGreatKb19
set_option linter.unusedVariables false
set_option linter.unusedSimpArgs false
namespace Go.Proofs.YtddbmckbankmeaaGreat
open Go.RowKit
structure Bel (w w' : World) : Prop where
 b : Below w.heap.size w w'
 d : w.drawn ≤ w'.drawn
theorem Bel.refl (w : World) : Bel w w := ⟨Below.refl _ _, Nat.le_refl _⟩
theorem Bel.trans {w w1 w2 : World} (h : Bel w w1) (k : Bel w1 w2) : Bel w w2 := ⟨bel_then h.b k.b, Nat.le_trans h.d k.d⟩
theorem Bel.drew {w w1 : World} (h : Bel w w1) : Bel w w1.drew := ⟨below_drew h.b, Nat.le_trans h.d (Nat.le_succ _)⟩
theorem Bel.alloc {w w1 : World} (h : Bel w w1) (o : Obj) : Bel w (w1.alloc o) := ⟨below_alloc h.b o, h.d⟩
def PostG (a : Act) (w : World) (d : Nat) (R : Value → World → Prop) : Act → World → Prop := fun a' w' => ∃ v, a' = a.put (some d) v ∧ Bel w w' ∧ R v w'
def GotG (w : World) (R : Value → World → Prop) (e : Ending) (w' : World) : Prop := ∃ v, e = .returned v ∧ Bel w w' ∧ R v w'
section
variable {P : Program} {Q : Exit → Act → World → Prop}
theorem wp_region_gars {id : Nat} (n1 : Nat) {l : List Oper} {a0 : Act} {w0 : World} (ds E AL : List Nat) (T : TypeId) (z : List Value) (V : Nat → Value → World → Prop) (C : Nat → World → Prop)
  (hm : P.follows .mixedOrders = true) (hns : Region.noSelect l.toArray = true) (hB : phaseB l.toArray n1 E = true) (hF : freeB l.toArray E = true) (hD : VarB l n1 ds E AL T a0.tmps.size = true)
  (hCt : ∀ i ∈ E, ∀ j ∈ E, j ∈ edgesOf l.toArray i → ∀ w, C j w) (hC0 : ∀ i ∈ E, ∀ w, Bel w0 w → C i w)
  (hz : ∀ w : World, (Instr.alloc T true (.tuple #[])).run P w = .ok (.pointer (some ⟨w.heap.size, 0, none⟩)) (w.alloc (.cells z.toArray T)))
  (hQ : ∀ d v c a w, Q (.panic c) (a.put d v) w → Q (.panic c) a w)
  (hV : ∀ i v w w', V i v w → Below w.heap.size w w' → V i v w')
  (hop : ∀ i, i < n1 → AL.contains i = false → ∀ a w, Bel w0 w → (∀ t, ds.contains t = false → a.eval (.tmp t) = a0.eval (.tmp t)) → Deps l ds AL V i a w →
   match l[i]? with | none => True | some o => if E.contains i then ∃ v, (∀ w, C i w → (execOp a.eval o).run P w = .ok (.value v) w) ∧ V i v w else o.wp P a w (PostG a w (ds.getD i 0) (V i)) Q)
  (hend : ∀ (vs : Nat → Value) (w : World), Bel w0 w → (∀ i, i < n1 → AL.contains i = false → V i (vs (ds.getD i 0)) w) →
   (∀ i, AL.contains i = true → ∃ g, vs (ds.getD i 0) = .pointer (some ⟨g, 0, none⟩) ∧ w0.heap.size ≤ g ∧ Blk w g T z) → (∀ i j, AL.contains i = true → AL.contains j = true → i ≠ j → vs (ds.getD i 0) ≠ vs (ds.getD j 0)) → wpListS P l.toArray Q E C n1 (l.drop n1) (putAll a0 ds vs) w) :
  (Code.region id l.toArray true).wp P Q a0 w0 := by
 unfold VarB at hD; simp only [Bool.and_eq_true, decide_eq_true_eq, List.all_eq_true, List.mem_range] at hD; obtain ⟨⟨⟨⟨⟨⟨hdl, hnl⟩, hdt⟩, hnd⟩, hEE⟩, hAA⟩, hops⟩ := hD
 have hop1 : ∀ i, i < n1 → ∃ o, l[i]? = some o ∧ o.dst = some (ds.getD i 0) ∧ o.guard = none ∧ (AL.contains i = true → o.op = .alloc T) := by
  intro i hi; have h := hops i hi
  cases ho : l[i]? with
  | none => rw [ho] at h; cases h
  | some o =>
   rw [ho] at h; simp only [Bool.and_eq_true, decide_eq_true_eq, Bool.or_eq_true, Bool.not_eq_true', Option.isNone_iff_eq_none] at h; refine ⟨o, rfl, h.1.1, h.1.2, fun hA => ?_⟩; rcases h.2 with h2 | h2
   ·rw [hA] at h2; cases h2
   revert h2
   cases o.op <;> simp
 have hdi : ∀ i, i < n1 → ds.getD i 0 < a0.tmps.size := by
  intro i hi
  have : ds.getD i 0 ∈ ds := by
   rw [List.getD_eq_getElem?_getD, List.getElem?_eq_getElem (by omega)]; exact List.getElem_mem _
  exact hdt _ this
 let F : Nat → Value → World → Prop := fun i v w => if AL.contains i then ∃ g, v = .pointer (some ⟨g, 0, none⟩) ∧ w0.heap.size ≤ g ∧ Blk w g T z else V i v w
 have hFs : ∀ i v w w', F i v w → Below w.heap.size w w' → F i v w' := by
  intro i v w w' h hb; show if _ then _ else _
  have h' : if _ then _ else _ := h
  split at h'
  ·next hA =>
   rw [if_pos hA]; obtain ⟨g, h1, h2, h3⟩ := h'; exact ⟨g, h1, h2, h3.to hb⟩
  next hA => rw [if_neg hA]; exact hV _ _ _ _ h' hb
 let I : Array Bool → Act → World → Prop := fun L a w => Bel w0 w ∧ L.size = l.length ∧ a.defers = a0.defers ∧ a.tmps.size = a0.tmps.size ∧ (∀ t, t ∉ ds → a0.tmps[t]? = a.tmps[t]?) ∧
  (∀ i, i < n1 → L.getD i false = true → F i (a.eval (.tmp (ds.getD i 0))) w) ∧
  (∀ i j, AL.contains i = true → AL.contains j = true → i ≠ j → L.getD i false = true → L.getD j false = true → a.eval (.tmp (ds.getD i 0)) ≠ a.eval (.tmp (ds.getD j 0)))
 have hAlt : ∀ i, AL.contains i = true → i < n1 := fun i h => hAA i (by simpa using h)
 -- an operation that is no new variable
 have key : ∀ L a w i v w', I L a w → i < n1 → Bel w w' → F i v w' → (AL.contains i = true → ∀ j, AL.contains j = true → i ≠ j → L.getD j false = true → v ≠ a.eval (.tmp (ds.getD j 0))) → I (L.setIfInBounds i true) (a.put (some (ds.getD i 0)) v) w' := by
  intro L a w i v w' ⟨hb, hsz, hdf, hts, hot, hf, hne⟩ hi hb' hv hd; refine ⟨hb.trans hb', by simp [hsz], hdf, by simp [Act.put, hts], fun t ht => ?_, fun j hj hL => ?_, fun j k hj hk hjk hLj hLk => ?_⟩
  ·have : ds.getD i 0 ≠ t := fun e => ht (by rw [← e, List.getD_eq_getElem?_getD, List.getElem?_eq_getElem (by omega)]; exact List.getElem_mem _)
   show _ = (a.tmps.setIfInBounds _ _)[t]?; rw [Array.getElem?_setIfInBounds_ne this]; exact hot t ht
  ·by_cases hij : j = i
   ·subst hij; rw [eval_put_same (by rw [hts]; exact hdi _ hi)]; exact hv
   rw [eval_put_other (nodup_ne hnd (by omega) (by omega) (Ne.symm hij))]; rw [set_getD _ (by omega), if_neg hij] at hL; exact hFs _ _ _ _ (hf j hj hL) hb'.b
  have hjn := hAlt j hj; have hkn := hAlt k hk; by_cases hji : j = i
  ·subst hji; rw [eval_put_same (by rw [hts]; exact hdi _ hi), eval_put_other (nodup_ne hnd (by omega) (by omega) hjk)]; rw [set_getD _ (by omega), if_neg (Ne.symm hjk)] at hLk; exact hd hj k hk hjk hLk
  by_cases hki : k = i
  ·subst hki; rw [eval_put_same (by rw [hts]; exact hdi _ hi), eval_put_other (nodup_ne hnd (by omega) (by omega) (Ne.symm hji))]; rw [set_getD _ (by omega), if_neg hji] at hLj; exact Ne.symm (hd hk j hj (Ne.symm hjk) hLj)
  rw [eval_put_other (nodup_ne hnd (by omega) (by omega) (Ne.symm hji)), eval_put_other (nodup_ne hnd (by omega) (by omega) (Ne.symm hki))]; rw [set_getD _ (by omega), if_neg hji] at hLj; rw [set_getD _ (by omega), if_neg hki] at hLk; exact hne j k hj hk hjk hLj hLk
 have hpre : ∀ L a w i o, I L a w → i < n1 → i ∈ Region.ready .any l.toArray L → l[i]? = some o → (∀ t, ds.contains t = false → a.eval (.tmp t) = a0.eval (.tmp t)) ∧ Deps l ds AL V i a w := by
  intro L a w i o ⟨hb, hsz, hdf, hts, hot, hf, hne⟩ hi hr ho; obtain ⟨_, o', ho', hall⟩ := mem_ready.1 hr; have : o' = o := by simpa [ho] using ho'.symm
  subst this; refine ⟨fun t ht => ?_, fun j hj => ?_⟩
  ·have := hot t (by simpa using ht); show a.tmps.getD t undef = a0.tmps.getD t undef; simp only [Array.getD_eq_getD_getElem?, this]
  rw [ho] at hj; simp only [Option.map_some, Option.getD_some, Bool.and_eq_true, Bool.not_eq_true', List.any_eq_true, decide_eq_true_eq] at hj; obtain ⟨⟨e, he, hbd, heq⟩, hA⟩ := hj; have hj1 : j < i := by rw [← heq]; exact (phaseB_back hB ho').1 e (by simpa using he) hbd
  have h1 := hf j (by omega) (by rw [← heq]; exact hall e (by simpa using he) hbd); have h2 : if AL.contains j then _ else _ := h1
  rw [if_neg (by rw [hA]; simp)] at h2; exact h2
 refine wp_region_phase (n1 := n1) E C hm hns hB hF (fun i hi => by have := hEE i hi; simp at this; exact this.1) hCt hnl hQ I ?_ (fun L a w h i hi => hC0 i hi w h.1) ?_ ?_ ?_
 ·refine ⟨(Bel.refl _).drew, by simp, rfl, rfl, fun _ _ => rfl, fun i hi hL => ?_, fun i j _ _ _ hL _ => ?_⟩
  ·rw [rep_getD] at hL; cases hL
  rw [rep_getD] at hL; cases hL
 ·intro L a w i o hI hi hr ho; have hEi := hEE i hi; simp only [Bool.and_eq_true, decide_eq_true_eq, Bool.not_eq_true'] at hEi; obtain ⟨h1, h2⟩ := hpre L a w i o hI hEi.1 hr ho; have h3 := hop i hEi.1 hEi.2 a w hI.1 h1 h2; rw [ho] at h3; simp only at h3; rw [if_pos (by simpa using hi)] at h3; obtain ⟨v, hy, hv⟩ := h3; obtain ⟨o', ho', hdst, hg, _⟩ := hop1 i hEi.1; have : o' = o := by rw [ho] at ho'; exact (Option.some.inj ho').symm
  subst this; refine ⟨v, .inl ⟨by simp [Region.wanted, hg], hy⟩, ?_⟩; rw [hdst]; exact key L a w i v w hI hEi.1 (Bel.refl _) (by show if _ then _ else _; rw [if_neg (by rw [hEi.2]; simp)]; exact hv) (fun h => by rw [hEi.2] at h; cases h)
 ·intro L a w i hI hi hE hr; obtain ⟨o, ho, hdst, hg, hal⟩ := hop1 i hi; obtain ⟨h1, h2⟩ := hpre L a w i o hI hi hr ho; unfold wpOp; have ho2 : l.toArray[i]? = some o := by simpa using ho
  rw [ho2]; simp only; rw [if_pos (by simp [Region.wanted, hg])]; refine .inl ?_; by_cases hA : AL.contains i = true
  ·unfold Oper.wp execOp; simp only [hal hA, Sem.run_bind, hz, Result.andThen_ok, Sem.run_pure, Oper.upon, hdst]; refine key L a w i _ _ hI hi ((Bel.refl _).alloc _) ?_ ?_
   ·show if _ then _ else _
    rw [if_pos hA]; exact ⟨_, rfl, hI.1.b.size, heap_alloc_new _ _⟩
   intro _ j hj hij hL; have h3 : if AL.contains j then _ else _ := hI.2.2.2.2.2.1 j (hAlt j hj) hL
   rw [if_pos hj] at h3; obtain ⟨g, hg1, _, hg2⟩ := h3; rw [hg1]; intro he; have := hg2.lt; injection he with he
   injection he with he
   injection he with he
   omega
  have hA' : AL.contains i = false := by simpa using hA
  have h3 := hop i hi hA' a w hI.1 h1 h2; rw [ho] at h3; simp only at h3; rw [if_neg (by simpa using hE)] at h3; refine Oper.wp_mono (fun a' w' h => ?_) h3; obtain ⟨v, rfl, hb', hv⟩ := h; exact key L a w i v w' hI hi hb' (by show if _ then _ else _; rw [if_neg hA]; exact hv) (fun h => absurd h hA)
 intro L a w hI hall; obtain ⟨hb, hsz, hdf, hts, hot, hf, hne⟩ := hI; have he := putAll_eq (a := a) ds a0 hdf.symm hts.symm (fun d hd => by rw [hts]; exact hdt d hd) hot; rw [← he]; refine hend (fun t => a.eval (.tmp t)) w hb (fun i hi hA => ?_) (fun i hA => ?_) (fun i j hi hj hij => hne i j hi hj hij (hall i (hAlt i hi)) (hall j (hAlt j hj)))
 ·have h3 : if AL.contains i then _ else _ := hf i hi (hall i hi)
  rw [if_neg (by rw [hA]; simp)] at h3; exact h3
 have h3 : if AL.contains i then _ else _ := hf i (hAlt i hA) (hall i (hAlt i hA))
 rw [if_pos hA] at h3; exact h3
end
section
variable {Q : Exit → Act → World → Prop} {id : Nat} {l : List Oper} {a0 : Act} {w0 : World}
theorem wp_region_gs (n1 : Nat) (ds E AL : List Nat) (T : TypeId) (z : List Value) (Vs : List SP)
  (hns : Region.noSelect l.toArray = true) (hB : phaseB l.toArray n1 E = true) (hF : freeB l.toArray E = true) (hD : VarB l n1 ds E AL T a0.tmps.size = true)
  (hz : ∀ w : World, (Instr.alloc T true (.tuple #[])).run Tryz.prog w = .ok (.pointer (some ⟨w.heap.size, 0, none⟩)) (w.alloc (.cells z.toArray T)))
  (hQ : ∀ d v c a w, Q (.panic c) (a.put d v) w → Q (.panic c) a w)
  (hop : ∀ i, i < n1 → AL.contains i = false → ∀ a w, Bel w0 w → (∀ t, ds.contains t = false → a.eval (.tmp t) = a0.eval (.tmp t)) → Deps l ds AL (vp Vs) i a w →
   match l[i]? with | none => True | some o => if E.contains i then ∃ v, (∀ w, (execOp a.eval o).run Tryz.prog w = .ok (.value v) w) ∧ vp Vs i v w else o.wp Tryz.prog a w (PostG a w (ds.getD i 0) (vp Vs i)) Q)
  (hend : ∀ (vs : Nat → Value) (w : World), Bel w0 w → (∀ i, i < n1 → AL.contains i = false → vp Vs i (vs (ds.getD i 0)) w) →
   (∀ i, AL.contains i = true → ∃ g, vs (ds.getD i 0) = .pointer (some ⟨g, 0, none⟩) ∧ w0.heap.size ≤ g ∧ Blk w g T z) → (∀ i j, AL.contains i = true → AL.contains j = true → i ≠ j → vs (ds.getD i 0) ≠ vs (ds.getD j 0)) → wpList Tryz.prog l.toArray Q (l.drop n1) (putAll a0 ds vs) w) :
  (Code.region id l.toArray true).wp Tryz.prog Q a0 w0 := by
 refine wp_region_gars n1 ds E AL T z (vp Vs) (fun _ _ => True) mixed_ hns hB hF hD (fun _ _ _ _ _ _ => trivial) (fun _ _ _ _ => trivial) hz hQ (fun i v w w' h hb => (Vs.getD i SP.any).st v w w' h hb) ?_ (fun vs w h1 h2 h3 h4 => wpListS_plain _ _ _ _ (fun _ _ _ => trivial) (hend vs w h1 h2 h3 h4)); intro i hi hA a w hb hs hd; have h := hop i hi hA a w hb hs hd
 cases ho : l[i]? with
 | none => trivial
 | some o =>
  rw [ho] at h; simp only at h ⊢; split at h
  ·next h1 =>
   rw [if_pos h1]; obtain ⟨v, h2, h3⟩ := h; exact ⟨v, fun w _ => h2 w, h3⟩
  next h1 =>
  rw [if_neg h1]; exact h
end
section
variable {P : Program} {Q : Exit → Act → World → Prop} {o : Oper} {a : Act} {w : World} {d : Nat} {R : Value → World → Prop} {f : Nat} {x x1 x2 x3 x4 : Operand} {ts : Array TypeId} {g off : Nat} {n1 n2 n3 n4 : Int}
theorem op_callG {f : Nat} {xs : Array Operand} {ts : Array TypeId} {vs : Array Value} (ho : o.op = .call { callee := .value (.func f), args := xs, argTypes := ts }) (hd : o.dst = some d)
  (hcf : ∀ args w, (callFunc f args).run P w = .ok (.enter f args) w) (hx : xs.map a.eval = vs) (hc : Calls P f vs w (GotG w R)) : o.wp P a w (PostG a w d R) Q := by
 obtain ⟨dst, op, type, pos, after, guard⟩ := o; simp only at ho hd; subst ho hd hx; unfold Oper.wp; rw [execOp_call_go, hcf]; simp only [Oper.upon, Array.empty_append, Array.append_empty]; refine hc.mono ?_; rintro e w' ⟨v, rfl, hb, hr⟩; exact ⟨v, rfl, hb, hr⟩
theorem op_callG1 (ho : o.op = .call { callee := .value (.func f), args := #[x1], argTypes := ts }) (hd : o.dst = some d)
  (hcf : ∀ args w, (callFunc f args).run P w = .ok (.enter f args) w) (hc : Calls P f #[a.eval x1] w (GotG w R)) : o.wp P a w (PostG a w d R) Q := op_callG ho hd hcf (by simp) hc
theorem op_callG2 (ho : o.op = .call { callee := .value (.func f), args := #[x1, x2], argTypes := ts }) (hd : o.dst = some d)
  (hcf : ∀ args w, (callFunc f args).run P w = .ok (.enter f args) w) (hc : Calls P f #[a.eval x1, a.eval x2] w (GotG w R)) : o.wp P a w (PostG a w d R) Q := op_callG ho hd hcf (by simp) hc
theorem op_loadG {T : TypeId} {p v : Value} (ho : o.op = .load T x) (hd : o.dst = some d) (hx : a.eval x = p) (hl : (Instr.loadAt T p).run P w = .ok v w) (h : R v w) : o.wp P a w (PostG a w d R) Q := by
 have hr : (execOp a.eval o).run P w = .ok (.value v) w := by
  unfold execOp; simp only [ho, hx, Sem.run_bind, hl, Result.andThen_ok, Sem.run_pure]
 unfold Oper.wp; rw [hr]; show PostG a w d R (a.put o.dst v) w; rw [hd]; exact ⟨v, rfl, Bel.refl _, h⟩
theorem op_ldGI {v : Value} (ho : o.op = .load 3 x) (hd : o.dst = some d) (hx : a.eval x = .pointer (some ⟨g, off, none⟩)) (h : w.cell? ⟨g, off, none⟩ = some v) : o.wp Tryz.prog a w (PostG a w d (isV v).p) Q := op_loadG ho hd hx (ld_I h) rfl
theorem op_ldGS {v : Value} (ho : o.op = .load 41 x) (hd : o.dst = some d) (hx : a.eval x = .pointer (some ⟨g, off, none⟩)) (h : w.cell? ⟨g, off, none⟩ = some v) : o.wp Tryz.prog a w (PostG a w d (isV v).p) Q := op_loadG ho hd hx (ld_S h) rfl
theorem op_litG3 (ho : o.op = .buildSlice 41 3 #[(0, x1), (1, x2), (2, x3)]) (hd : o.dst = some d) (h1 : a.eval x1 = .int .i64 n1) (h2 : a.eval x2 = .int .i64 n2) (h3 : a.eval x3 = .int .i64 n3) (lo : Nat) (hl : lo ≤ w.heap.size) :
  o.wp Tryz.prog a w (PostG a w d (isF lo [n1, n2, n3]).p) Q := by
 have key : (execOp a.eval o).run Tryz.prog w = .ok (.value (.slice (some ⟨w.heap.size, 0, none⟩) 3 3)) (w.alloc (.cells (ints [n1, n2, n3]).toArray 3)) := by
  generalize a.eval = ev at h1 h2 h3 ⊢; unfold execOp; simp only [ho]; simp [go_sem, ints, h1, h2, h3]
 unfold Oper.wp; rw [key]; simp only [Oper.upon, hd]; exact ⟨_, rfl, (Bel.refl _).alloc _, w.heap.size, 3, [], rfl, hl, by simp, by omega, by rw [List.append_nil]; exact heap_alloc_new w _⟩
end
section
variable {w W : World} {t1 t2 : TypeId} {v1 v2 : List Value}
theorem env_twoG (e : W = (w.alloc (.cells v1.toArray t1)).alloc (.cells v2.toArray t2)) : Env W [⟨w.heap.size, t1, v1⟩, ⟨w.heap.size + 1, t2, v2⟩] ∧ Bel w W :=
 ⟨(env_two e).1, by rw [e]; exact ((Bel.refl _).alloc _).alloc _⟩
end
theorem isNaN_x (x : Int) (w : World) : Calls Tryz.prog 98 #[.int .i64 x] w fun e w' => e = .returned (.bool false) ∧ w' = w := by
 go_enter Tryz.func98, Tryz.ntmps98
 go_wp2_with fail
 go_ret
 simp
set_option maxHeartbeats 1000000 in
theorem Compare_x (x y : Int) (w : World) : Calls Tryz.prog 70 #[.int .i64 x, .int .i64 y] w fun e w' => e = .returned (.int .i64 (cmpI x y)) ∧ w' = w := by
 have hn := isNaN_x; unfold cmpI; go_enter Tryz.func70, Tryz.ntmps70
 by_cases h1 : x < y
 ·rw [if_pos h1]; go_wp2_with (go_at_call 98; refine (hn _ _).mono ?_; rintro e w' ⟨rfl, rfl⟩)
  go_ret
  simp
 rw [if_neg h1]; by_cases h2 : y < x
 ·rw [if_pos h2]; go_wp2_with (go_at_call 98; refine (hn _ _).mono ?_; rintro e w' ⟨rfl, rfl⟩)
  go_ret
  simp
 rw [if_neg h2]; go_wp2_with (go_at_call 98; refine (hn _ _).mono ?_; rintro e w' ⟨rfl, rfl⟩)
 go_ret
 simp
set_option maxHeartbeats 1000000 in
theorem Or_x (A : Option Addr) (k : Nat) (xs : List Int) (w : World) (hri : RI w A xs) (hln : xs.length ≤ 140737488351232) :
  Calls Tryz.prog 69 #[.slice A xs.length k] w fun e w' => e = .returned (.int .i64 (orL xs)) ∧ w' = w := by
 have HRI := Hd.mk hri; clear hri; go_enter Tryz.func69, Tryz.ntmps69
 go_wp2
 go_loop [8] (fun v => ∃ j : Nat, j ≤ xs.length ∧ v = .int .i64 j ∧ ∀ i : Nat, i < j → xs.getD i 0 = 0) (fun v => xs.length - (intOf v).toNat)
 case atStart => exact ⟨0, Nat.zero_le _, rfl, fun i hi => by omega⟩
 case round =>
  obtain ⟨j, hjl, rfl, hz⟩ := hrel; have HZ := Hd.mk hz; clear hz; by_cases hj : j < xs.length
  ·obtain ⟨ad, rfl, hcell⟩ := HRI.out.at_ hj; by_cases h0 : xs.getD j 0 = 0
   ·rw [h0] at hcell; have H0 := Hd.mk h0; clear h0; go_wp2
    go_round
    case rel =>
     refine ⟨j + 1, by omega, by go_num, fun i hi => ?_⟩; by_cases e : i = j
     ·rw [e]; exact H0.out
     exact HZ.out i (by omega)
    case measure => simp [intOf]; omega
   have HOR := Hd.mk (orL_hit xs j HZ.out hj h0); have hne : (xs.getD j 0 == 0) = false := by rw [beq_eq_false_iff_ne]; exact h0
   clear h0; generalize xs.getD j 0 = x at hcell hne HOR; go_wp2
   go_ret
   exact ⟨by rw [HOR.out]; rfl, rfl⟩
  have e1 : j = xs.length := by omega
  have HOR := Hd.mk (orL_none xs (by rw [← e1]; exact HZ.out)); go_wp2
  go_ret
  exact ⟨by rw [HOR.out]; rfl, rfl⟩
def cmpL : List Int → List Int → Int
 | [], [] => 0
 | [], _ :: _ => -1
 | _ :: _, [] => 1
 | x :: xs, y :: ys => if cmpI x y = 0 then cmpL xs ys else cmpI x y
theorem cmpI_zero {x y : Int} : cmpI x y = 0 ↔ x = y := by
 unfold cmpI; split
 ·omega
 split <;> omega
theorem cmpL_drop : ∀ (j : Nat) (xs ys : List Int), j ≤ xs.length → j ≤ ys.length → (∀ i : Nat, i < j → xs.getD i 0 = ys.getD i 0) → cmpL xs ys = cmpL (xs.drop j) (ys.drop j)
 | 0, _, _, _, _, _ => rfl
 | j + 1, [], _, h, _, _ => absurd h (by simp)
 | j + 1, _ :: _, [], _, h, _ => absurd h (by simp)
 | j + 1, x :: xs, y :: ys, h1, h2, h => by
  have h0 : x = y := by simpa using h 0 (by omega)
  rw [List.drop_succ_cons, List.drop_succ_cons, ← cmpL_drop j xs ys (by simpa using h1) (by simpa using h2) (fun i hi => by simpa using h (i + 1) (by omega)), cmpL, if_pos (cmpI_zero.2 h0)]
theorem cmpL_hit (xs ys : List Int) (j : Nat) (h : ∀ i : Nat, i < j → xs.getD i 0 = ys.getD i 0) (hj : j < xs.length) (hk : j < ys.length) (hne : cmpI (xs.getD j 0) (ys.getD j 0) ≠ 0) : cmpL xs ys = cmpI (xs.getD j 0) (ys.getD j 0) := by
 rw [cmpL_drop j xs ys (by omega) (by omega) h, List.drop_eq_getElem_cons hj, List.drop_eq_getElem_cons hk, cmpL]; rw [List.getD_eq_getElem?_getD, List.getElem?_eq_getElem hj, List.getD_eq_getElem?_getD, List.getElem?_eq_getElem hk] at hne ⊢; exact if_neg hne
theorem cmpL_more (xs ys : List Int) (h : ∀ i : Nat, i < ys.length → xs.getD i 0 = ys.getD i 0) (hl : ys.length < xs.length) : cmpL xs ys = 1 := by
 rw [cmpL_drop ys.length xs ys (by omega) (by omega) h, List.drop_length, List.drop_eq_getElem_cons hl, cmpL]
theorem cmpL_less (xs ys : List Int) (h : ∀ i : Nat, i < xs.length → xs.getD i 0 = ys.getD i 0) (hl : xs.length < ys.length) : cmpL xs ys = -1 := by
 rw [cmpL_drop xs.length xs ys (by omega) (by omega) h, List.drop_length, List.drop_eq_getElem_cons hl, cmpL]
theorem cmpL_same (xs ys : List Int) (h : ∀ i : Nat, i < xs.length → xs.getD i 0 = ys.getD i 0) (hl : xs.length = ys.length) : cmpL xs ys = 0 := by
 rw [cmpL_drop xs.length xs ys (by omega) (by omega) h, List.drop_length, hl, List.drop_length, cmpL]
set_option maxHeartbeats 2000000 in
theorem CompareL_x (A C : Option Addr) (k l : Nat) (xs ys : List Int) (w : World) (hra : RI w A xs) (hrc : RI w C ys) (hla : xs.length ≤ 140737488351232) (hlc : ys.length ≤ 140737488351232) :
  Calls Tryz.prog 71 #[.slice A xs.length k, .slice C ys.length l] w fun e w' => e = .returned (.int .i64 (cmpL xs ys)) ∧ w' = w := by
 have HRA := Hd.mk hra; have HRC := Hd.mk hrc; clear hra hrc; have hc := Compare_x; go_enter Tryz.func71, Tryz.ntmps71
 go_wp2
 go_loop [11] (fun v => ∃ j : Nat, j ≤ xs.length ∧ j ≤ ys.length ∧ v = .int .i64 j ∧ ∀ i : Nat, i < j → xs.getD i 0 = ys.getD i 0) (fun v => xs.length - (intOf v).toNat)
 case atStart => exact ⟨0, Nat.zero_le _, Nat.zero_le _, rfl, fun i hi => by omega⟩
 case round =>
  obtain ⟨j, hjl, hjm, rfl, hz⟩ := hrel; have HZ := Hd.mk hz; clear hz; by_cases hj : j < xs.length
  ·obtain ⟨ad, rfl, hcell⟩ := HRA.out.at_ hj; by_cases hk : j < ys.length
   ·obtain ⟨bd, rfl, hcell2⟩ := HRC.out.at_ hk; by_cases h0 : cmpI (xs.getD j 0) (ys.getD j 0) = 0
    ·have H0 := Hd.mk h0; clear h0; generalize hx : xs.getD j 0 = x at hcell; generalize hy : ys.getD j 0 = y at hcell2; have hcx := hc x y; rw [show cmpI x y = 0 by rw [← hx, ← hy]; exact H0.out] at hcx; clear hx hy; go_wp2_with (go_at_call 70; refine (hcx _).mono ?_; rintro e w' ⟨rfl, rfl⟩)
     go_round
     case rel =>
      refine ⟨j + 1, by omega, by omega, by go_num, fun i hi => ?_⟩; by_cases e : i = j
      ·rw [e]; exact cmpI_zero.1 H0.out
      exact HZ.out i (by omega)
     case measure => simp [intOf]; omega
    have HOR := Hd.mk (cmpL_hit xs ys j HZ.out hj hk h0); generalize xs.getD j 0 = x at hcell h0 HOR; generalize ys.getD j 0 = y at hcell2 h0 HOR; have hcx := hc x y; generalize cmpI x y = z at hcx h0 HOR; have hne : (z == 0) = false := by rw [beq_eq_false_iff_ne]; exact h0
    clear h0; go_wp2_with (go_at_call 70; refine (hcx _).mono ?_; rintro e w' ⟨rfl, rfl⟩)
    go_ret
    exact ⟨by rw [HOR.out]; rfl, rfl⟩
   have e1 : j = ys.length := by omega
   have HOR := Hd.mk (cmpL_more xs ys (by rw [← e1]; exact HZ.out) (by omega)); clear e1; generalize xs.getD j 0 = x at hcell; go_wp2
   go_ret
   exact ⟨by rw [HOR.out]; rfl, rfl⟩
  have e1 : j = xs.length := by omega
  by_cases hk : j < ys.length
  ·have HOR := Hd.mk (cmpL_less xs ys (by rw [← e1]; exact HZ.out) (by omega)); go_wp2
   go_ret
   exact ⟨by rw [HOR.out]; rfl, rfl⟩
  have HOR := Hd.mk (cmpL_same xs ys (by rw [← e1]; exact HZ.out) (by omega)); go_wp2
  go_ret
  exact ⟨by rw [HOR.out]; rfl, rfl⟩
theorem got_x {f : Nat} {xs : Array Value} {w : World} {u : Value} (h : Calls Tryz.prog f xs w fun e w' => e = .returned u ∧ w' = w) : Calls Tryz.prog f xs w (GotG w (isV u).p) :=
 h.mono fun e w' ⟨h1, h2⟩ => ⟨u, h1, by rw [h2]; exact Bel.refl _, rfl⟩
def ordT (W1 H1 : Int) (xs : List Int) (W2 H2 : Int) (ys : List Int) : Int := orL [cmpI W1 W2, cmpI H1 H2, cmpL xs ys]
set_option maxRecDepth 100000 in
set_option maxHeartbeats 1000000 in
theorem compare_x (W1 H1 W2 H2 : Int) (A A' : Option Addr) (k k' : Nat) (xs ys : List Int) (w : World) (hri : RI w A xs) (hrj : RI w A' ys) (hl1 : xs.length ≤ 140737488351232) (hl2 : ys.length ≤ 140737488351232) :
  Calls Tryz.prog 32 #[.agg #[.int .i64 W1, .int .i64 H1, .slice A xs.length k], .agg #[.int .i64 W2, .int .i64 H2, .slice A' ys.length k']] w (GotG w (isV (.int .i64 (ordT W1 H1 xs W2 H2 ys))).p) := by
 have HRI := Hd.mk hri; have HRJ := Hd.mk hrj; clear hri hrj; go_enter Tryz.func32, Tryz.ntmps32
 go_upto_region 1 with fail
 obtain ⟨W0, hW0⟩ : ∃ W : World, W = (w.alloc (.cells #[.int .i64 W1, .int .i64 H1, .slice A xs.length k] 43)).alloc (.cells #[.int .i64 W2, .int .i64 H2, .slice A' ys.length k'] 43) := ⟨_, rfl⟩; rw [← hW0]; obtain ⟨he, hb⟩ := env_twoG hW0; have HE := Hd.mk he; have HB := Hd.mk hb; clear he hb hW0; refine wp_region_gs 18 [5, 6, 7, 8, 9, 10, 11, 12, 13, 14, 15, 16, 17, 18, 19, 20, 21, 4] [0, 2, 5, 7, 10, 12, 17] [] 63 [.int .i64 0, .int .i64 0] [isV (.pointer (some ⟨w.heap.size, 0, none⟩)), isV (.int .i64 W1), isV (.pointer (some ⟨w.heap.size + 1, 0, none⟩)), isV (.int .i64 W2), isV (.int .i64 (cmpI W1 W2)), isV (.pointer (some ⟨w.heap.size, 1, none⟩)), isV (.int .i64 H1), isV (.pointer (some ⟨w.heap.size + 1, 1, none⟩)), isV (.int .i64 H2), isV (.int .i64 (cmpI H1 H2)), isV (.pointer (some ⟨w.heap.size, 2, none⟩)), isV (.slice A xs.length k), isV (.pointer (some ⟨w.heap.size + 1, 2, none⟩)), isV (.slice A' ys.length k'), isV (.int .i64 (cmpL xs ys)), isF W0.heap.size ([cmpI W1 W2, cmpI H1 H2, cmpL xs ys]), isV (.int .i64 (orL [cmpI W1 W2, cmpI H1 H2, cmpL xs ys])), isV (.int .i64 (orL [cmpI W1 W2, cmpI H1 H2, cmpL xs ys]))] (by kernel_rfl) (by kernel_rfl) (by kernel_rfl) (by rfl) alloc_Z (fun d v c a w h => by cases d <;> exact h) ?_ ?_
 ·intro qi qh qA aa wx hb hs hd
  match qi, qh, qA with
  | 0, _, _ => exact ⟨_, op_faT0 rfl (hs 2 rfl), rfl⟩ | 1, _, _ => exact op_ldGI rfl rfl (hd 0 rfl) ((HE.out.to hb.b).cell 0 0 rfl rfl) | 2, _, _ => exact ⟨_, op_faT0 rfl (hs 3 rfl), rfl⟩ | 3, _, _ => exact op_ldGI rfl rfl (hd 2 rfl) ((HE.out.to hb.b).cell 1 0 rfl rfl) | 4, _, _ => exact op_callG2 rfl rfl Tryz.call70 (by rw [(show aa.eval (.tmp 6) = .int .i64 W1 from (hd 1 rfl)), (show aa.eval (.tmp 8) = .int .i64 W2 from (hd 3 rfl))]; exact got_x (Compare_x W1 W2 _)) | 5, _, _ => exact ⟨_, op_faT1 rfl (hs 2 rfl), rfl⟩ | 6, _, _ => exact op_ldGI rfl rfl (hd 5 rfl) ((HE.out.to hb.b).cell 0 1 rfl rfl) | 7, _, _ => exact ⟨_, op_faT1 rfl (hs 3 rfl), rfl⟩ | 8, _, _ => exact op_ldGI rfl rfl (hd 7 rfl) ((HE.out.to hb.b).cell 1 1 rfl rfl) | 9, _, _ => exact op_callG2 rfl rfl Tryz.call70 (by rw [(show aa.eval (.tmp 11) = .int .i64 H1 from (hd 6 rfl)), (show aa.eval (.tmp 13) = .int .i64 H2 from (hd 8 rfl))]; exact got_x (Compare_x H1 H2 _)) | 10, _, _ => exact ⟨_, op_faT2 rfl (hs 2 rfl), rfl⟩ | 11, _, _ => exact op_ldGS rfl rfl (hd 10 rfl) ((HE.out.to hb.b).cell 0 2 rfl rfl) | 12, _, _ => exact ⟨_, op_faT2 rfl (hs 3 rfl), rfl⟩ | 13, _, _ => exact op_ldGS rfl rfl (hd 12 rfl) ((HE.out.to hb.b).cell 1 2 rfl rfl) | 14, _, _ => exact op_callG2 rfl rfl Tryz.call71 (by rw [(show aa.eval (.tmp 16) = .slice A xs.length k from (hd 11 rfl)), (show aa.eval (.tmp 18) = .slice A' ys.length k' from (hd 13 rfl))]; exact got_x (CompareL_x A A' k k' xs ys _ (HRI.out.to (HB.out.trans hb).b) (HRJ.out.to (HB.out.trans hb).b) hl1 hl2)) | 15, _, _ => exact op_litG3 rfl rfl (hd 4 rfl) (hd 9 rfl) (hd 14 rfl) _ (Nat.le_trans (Nat.le_refl _) hb.b.size) | 16, _, _ => exact op_callG1 rfl rfl Tryz.call69 (by obtain ⟨g, k, rest, e, _, _, _, b⟩ := (hd 15 rfl); rw [show aa.eval (.tmp 20) = _ from e]; exact got_x (Or_x _ k _ _ b.ri (by simp))) | 17, _, _ => exact op_asg rfl (hd 16 rfl) | qi + 18, h, _ => omega
 intro vs X1 hb hv hal hne; replace HB := Hd.mk (HB.out.trans hb); replace HE : Hd (Env X1 [⟨w.heap.size, 43, [.int .i64 W1, .int .i64 H1, .slice A xs.length k]⟩, ⟨w.heap.size + 1, 43, [.int .i64 W2, .int .i64 H2, .slice A' ys.length k']⟩]) := ⟨HE.out.to hb.b⟩; have e4 : vs 4 = .int .i64 (orL [cmpI W1 W2, cmpI H1 H2, cmpL xs ys]) := hv 17 (by decide) rfl; simp only [PA, e4]; clear hv hal hne hb e4; go_wp2_with fail
 go_ret
 exact ⟨_, rfl, HB.out, rfl⟩
end Go.Proofs.YtddbmckbankmeaaGreat
set_option linter.unusedVariables false
set_option linter.unusedSimpArgs false
namespace Go.Proofs.YtddbmckbankmeaaGreat
open Go.RowKit Go.ChangeShapes Go.WideShapes Go.ChangeAt Go.WideMaps Go.Joins
open Go.Maps (Keyed)
theorem laidM : laidOutB Tryz.prog = true := by kernel_rfl
theorem rowM : (65 : TypeId) < Tryz.prog.types.size := of_decide_eq_true (by kernel_rfl)
theorem cellsSM : Tryz.prog.cellsOf 65 = 4 := by kernel_rfl
theorem cellsI1 : Tryz.prog.cellsOf 3 = 1 := by kernel_rfl
theorem cellsB1 : Tryz.prog.cellsOf 4 = 1 := by kernel_rfl
theorem deepM : Tryz.prog.keyTypeAt (Tryz.prog.types.size + 1) 65 = true := by kernel_rfl
theorem wideM : (match Tryz.prog.underlying 65 with | some (.array _ _) | some (.struct _) => true | _ => false) = true := by kernel_rfl
set_option maxRecDepth 100000 in
theorem lawM : KeyLaw Tryz.prog 65 := deep_law_laid laidM (m := 3) (by omega) rowM (by kernel_rfl) wideM
theorem keyedM : Keyed Tryz.prog 65 := Keyed.of_law lawM
def mvv (m : Mv) : Value := .agg #[.int .i64 m.x, .int .i64 m.y, .int .i64 m.t, .bool m.f]
def WfM (m : Mv) : Prop := (Lit.int .i64 m.x).wf = true ∧ (Lit.int .i64 m.y).wf = true ∧ (Lit.int .i64 m.t).wf = true
theorem wf_small {i : Int} (h : -1000 ≤ i ∧ i ≤ 1000) : (Lit.int .i64 i).wf = true := by
 simp [Lit.wf, IntKind.min, IntKind.max, IntKind.signed, IntKind.bits]; omega
theorem Al.wf {W H : Int} {m : Mv} (h : Al W H m) : WfM m := by
 have h1 := h.w; have h2 := h.h; have h3 := h.x; have h4 := h.y; have h5 := h.t; exact ⟨wf_small (by omega), wf_small (by omega), wf_small (by omega)⟩
theorem wf_zero : WfM ⟨0, 0, 0, false⟩ := ⟨wf_small (by simp), wf_small (by simp), wf_small (by simp)⟩
set_option maxRecDepth 100000 in
theorem key_of (w : World) {m : Mv} (h : WfM m) : ∃ kl, keyOf Tryz.prog 65 (mvv m) = some kl := by
 have hf : (mvv m).formed Tryz.prog 65 = true := by simp [Value.formed, mvv, Tryz.underlying65, cellsSM]
 have ht : DataW.Trod (H := Unit) (fun _ => ()) Tryz.prog w 0 (fun _ => true) true 65 (mvv m) (.agg [.lit (.int .i64 m.x), .lit (.int .i64 m.y), .lit (.int .i64 m.t), .lit (.bool m.f)]) [] :=
  ⟨2, by
   have h0 := trod_int_mk (H := Unit) (enc := fun _ => ()) (P := Tryz.prog) (w := w) (base := 0) (spare := fun _ => true) (held := true) 0 Tryz.underlying3 h.1; have h1 := trod_int_mk (H := Unit) (enc := fun _ => ()) (P := Tryz.prog) (w := w) (base := 0) (spare := fun _ => true) (held := true) 0 Tryz.underlying3 h.2.1; have h2 := trod_int_mk (H := Unit) (enc := fun _ => ()) (P := Tryz.prog) (w := w) (base := 0) (spare := fun _ => true) (held := true) 0 Tryz.underlying3 h.2.2; have h3 : DataW.trod (H := Unit) (fun _ => ()) Tryz.prog w 0 (fun _ => true) true 1 4 [.bool m.f] = some (.lit (.bool m.f), []) := by simp [DataW.trod, Tryz.underlying4]
   exact trod_struct4_mk (n := 1) (cs := [.int .i64 m.x, .int .i64 m.y, .int .i64 m.t, .bool m.f]) Tryz.underlying65 cellsSM.symm (by simpa [cellsI1] using h0) (by simpa [cellsI1] using h1) (by simpa [cellsI1] using h2) (by simpa [cellsB1] using h3)⟩
 exact ⟨_, (keyOf_asKey deepM wideM hf ht).1⟩
theorem mvv_inj {m n : Mv} (h : mvv m = mvv n) : m = n := by
 obtain ⟨x, y, t, f⟩ := m; obtain ⟨x', y', t', f'⟩ := n; simp [mvv] at h; simp [h]
theorem plainElem_bool_inv {P : Program} {e : TypeId} (he : P.underlying e = some .bool) {v : Value} {z : DataW Unit × List MemPlace} (h : plainElem P e v = some z) : ∃ b, v = .bool b ∧ z = (.lit (.bool b), []) := by
 unfold plainElem at h; rw [he] at h; cases v <;> simp at h
 exact ⟨_, rfl, h.symm⟩
def mvEq (m n : Mv) : Bool := m.x == n.x && (m.y == n.y && (m.t == n.t && m.f == n.f))
theorem mvEq_iff {m n : Mv} : mvEq m n = true ↔ m = n := by
 obtain ⟨x, y, t, f⟩ := m; obtain ⟨x', y', t', f'⟩ := n; simp [mvEq]
def memB (m : Mv) (ms : List Mv) : Bool := ms.any (mvEq m)
theorem memB_iff {m : Mv} {ms : List Mv} : memB m ms = true ↔ m ∈ ms := by
 unfold memB; rw [List.any_eq_true]; exact ⟨fun ⟨n, h1, h2⟩ => by rw [mvEq_iff.1 h2]; exact h1, fun h => ⟨m, h, mvEq_iff.2 rfl⟩⟩
def MapM (w : World) (b : Nat) (ms : List Mv) : Prop := ∃ D : DataW Unit, w.ownsMap Tryz.prog 65 (plainElem Tryz.prog 4) b ms.length D ∧
 ∀ m kl, WfM m → keyOf Tryz.prog 65 (mvv m) = some kl → D.atKey kl (.lit (.bool false)) = .lit (.bool (memB m ms))
theorem zeroBool (w : World) : (zeroValue 4).run Tryz.prog w = .ok (.bool false) w := by kernel_rfl
section
variable {w w' : World} {b : Nat} {ms : List Mv} {m : Mv}
theorem mapM_made (w : World) : MapM (w.alloc (.map #[] 0)) w.heap.size [] := ⟨.map [], World.ownsMap_made _ _ _ _, fun m kl _ _ => rfl⟩
theorem MapM.to (h : MapM w b ms) (hb : Below w.heap.size w w') : MapM w' b ms := by
 obtain ⟨D, h1, h2⟩ := h; exact ⟨D, h1.kept (row := none) ⟨hb.os, hb.tape, hb.output, hb.size, fun k hk _ => hb.block k hk⟩ (by simp), h2⟩
theorem MapM.put (h : MapM w b ms) {g o : Nat} {vs : List Value} (hlt : b < g) : MapM (putL w g o vs) b ms := by
 obtain ⟨D, ⟨es, clock, hb, F, hs, hD⟩, h2⟩ := h; exact ⟨D, ⟨es, clock, ((putL_below (Nat.le_refl g) vs w o (Below.refl g w)).block b hlt).trans hb, F, hs, hD⟩, h2⟩
theorem MapM.lt (h : MapM w b ms) : b < w.heap.size := by
 obtain ⟨D, h1, _⟩ := h; exact h1.lt
theorem MapM.look (h : MapM w b ms) (hw : WfM m) : (Instr.lookup 92 (.map (some b)) (mvv m) false).run Tryz.prog w = .ok (.bool (memB m ms)) w := by
 obtain ⟨D, h1, h2⟩ := h; obtain ⟨kl, hk⟩ := key_of w hw; obtain ⟨v, ps, hrun, hv⟩ := h1.lookup keyedM Tryz.underlying92 (zeroBool w) (plainElem_bool Tryz.underlying4 false) hk; obtain ⟨c, rfl, hc⟩ := plainElem_bool_inv Tryz.underlying4 hv; rw [h2 m kl hw hk] at hc; simp only [Prod.mk.injEq, DataW.lit.injEq, Lit.bool.injEq] at hc; rw [hrun, hc.1]
theorem MapM.store (h : MapM w b ms) (hw : WfM m) (hn : ms.length < maxLen) : ∃ w', (Instr.mapUpdate 92 (.map (some b)) (mvv m) (.bool true)).run Tryz.prog w = .ok () w' ∧ MapM w' b (ms ++ [m]) ∧ w.grownBy w' (some b) := by
 obtain ⟨D, h1, h2⟩ := h; obtain ⟨kl, hk⟩ := key_of w hw; obtain ⟨w', r1, r2, r3⟩ := h1.update keyedM Tryz.underlying92 hn hk (plainElem_bool Tryz.underlying4 true); refine ⟨w', r1, ⟨D.put kl (.lit (.bool true)), by rw [List.length_append]; exact r2, fun n nl hnw hnk => ?_⟩, r3⟩; by_cases e : nl = kl
 ·subst e; have := mvv_inj (keyedM.inj hnk hk); subst this; rw [Maps.atKey_put_same h1.isMap (keyedM.key hk)]; rw [show memB n (ms ++ [n]) = true from memB_iff.2 (by simp)]
 rw [Maps.atKey_put_other e, h2 n nl hnw hnk]
 have hne : n ≠ m := fun e2 => by
  subst e2; rw [hnk] at hk; exact e (Option.some.inj hk)
 have : memB n (ms ++ [m]) = memB n ms := by
  unfold memB; rw [List.any_append]
  have : mvEq n m = false := by
   cases hq : mvEq n m
   ·rfl
   exact absurd (mvEq_iff.1 hq) hne
  simp [this]
 rw [this]
end
section
variable {Q : Exit → Act → World → Prop} {o : Oper} {a : Act} {w : World} {d b : Nat} {x y : Operand} {m : Mv} {ms : List Mv}
theorem op_lookM (ho : o.op = .lookup 92 x y false) (hd : o.dst = some d) (hx : a.eval x = .map (some b)) (hy : a.eval y = .agg #[.int .i64 m.x, .int .i64 m.y, .int .i64 m.t, .bool m.f]) (h : MapM w b ms) (hw : WfM m) :
  o.wp Tryz.prog a w (Post a w d (isV (.bool (memB m ms))).p) Q := by
 refine op_run (v := .bool (memB m ms)) hd ?_ rfl; have hl := h.look hw; unfold mvv at hl; generalize a.eval = ev at hx hy ⊢; unfold execOp; simp only [ho, hx, hy]; simp [go_sem, hl]
end
end Go.Proofs.YtddbmckbankmeaaGreat
