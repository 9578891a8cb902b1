/- Part 23 of the texts behind this claim. -/
import Derived.ProofKit
import Derived.OpenShut
import Derived.ChangeSlices
import Derived.Lib.SmallJoins
import Derived.Test.YtdfhhceboacdcaaGreatDoorGk5
import Derived.Test.YtdfhhceboacdcaaGreatDoorGk15
import Derived.Test.YtdfhhceboacdcaaGreatDoorGk22
set_option linter.unusedVariables false
set_option linter.unusedSimpArgs false
namespace Go.Proofs.YtdfhhceboacdcaaGreatDoor
open Go.RowKit
abbrev WantN (l : List Oper) (ds : List Nat) (o : Oper) (a : Act) (t : Bool) : Prop :=
 WantG l ds o a t ∨ (t = false ∧ ∃ j b, o.guard = some (j, b) ∧ ((l[j]?).bind (·.dst)) = some (ds.getD j 0) ∧ a.eval (.tmp (ds.getD j 0)) = undef)
theorem WantN.wanted {l : List Oper} {ds : List Nat} {o : Oper} {a : Act} {t : Bool} (h : WantN l ds o a t) : Region.wanted o (yielded l.toArray a.tmps) = t := by
 rcases h with h | ⟨rfl, j, b, hg, h1, h2⟩
 ·exact h.wanted
 have h3 : a.tmps.getD (ds.getD j 0) undef = undef := h2
 have h5 : yielded l.toArray a.tmps j = none := by
  unfold yielded; rw [List.getElem?_toArray, h1]; simp only [Option.bind_some]; rw [Array.getD_eq_getD_getElem?] at h3
  cases h : a.tmps[ds.getD j 0]? with
  | none => rfl
  | some v => rw [h] at h3; simp at h3; rw [h3]; rfl
 unfold Region.wanted; rw [hg]; simp only; rw [h5]; rfl
theorem wp_region_vdn {id : Nat} {l : List Oper} {a0 : Act} {w0 : World} {Q : Exit → Act → World → Prop} (n1 : Nat) (ds E AL : List Nat) (T : TypeId) (z : List Value) (Vs : List SP)
  (hD : VarG l n1 ds E AL T a0.tmps.size = true)
  (hz : ∀ w : World, (Instr.alloc T true (.tuple #[])).run Tryz.prog w = .ok (.pointer (some ⟨w.heap.size, 0, none⟩)) (w.alloc (.cells z.toArray T)))
  (hop : ∀ i, i < n1 → AL.contains i = false → ∀ a w, Below w0.heap.size w0 w → (∀ t, ds.contains t = false → a.eval (.tmp t) = a0.eval (.tmp t)) → DepsD ds AL (vp Vs) i a w →
   match l[i]? with | none => True | some o => (WantN l ds o a true ∧ if E.contains i then ∃ v, (∀ w, (execOp a.eval o).run Tryz.prog w = .ok (.value v) w) ∧ vp Vs i v w else o.wp Tryz.prog a w (Post a w (ds.getD i 0) (vp Vs i)) Q) ∨ (WantN l ds o a false ∧ vp Vs i undef w))
  (hend : ∀ (vs : Nat → Value) (w : World), Below w0.heap.size w0 w → (∀ i, i < n1 → AL.contains i = false → vp Vs i (vs (ds.getD i 0)) w) →
   (∀ i, AL.contains i = true → ∃ g, vs (ds.getD i 0) = .pointer (some ⟨g, 0, none⟩) ∧ w0.heap.size ≤ g ∧ Blk w g T z) → (∀ i j, AL.contains i = true → AL.contains j = true → i ≠ j → vs (ds.getD i 0) ≠ vs (ds.getD j 0)) → wpList Tryz.prog l.toArray Q (l.drop n1) (putAll a0 ds vs) w) :
  (Code.region id l.toArray false).wp Tryz.prog Q a0 w0 := by
 unfold VarG at hD; simp only [Bool.and_eq_true, decide_eq_true_eq, List.all_eq_true, List.mem_range] at hD; obtain ⟨⟨⟨⟨⟨⟨hdl, hnl⟩, hdt⟩, hnd⟩, hEE⟩, hAA⟩, hops⟩ := hD
 have hop1 : ∀ i, i < n1 → ∃ o, l[i]? = some o ∧ o.dst = some (ds.getD i 0) ∧ (AL.contains i = true → o.guard = none) ∧ (AL.contains i = true → o.op = .alloc T) := by
  intro i hi; have h := hops i hi
  cases ho : l[i]? with
  | none => rw [ho] at h; cases h
  | some o =>
   rw [ho] at h; simp only [Bool.and_eq_true, decide_eq_true_eq, Bool.or_eq_true, Bool.not_eq_true', Option.isNone_iff_eq_none] at h; refine ⟨o, rfl, h.1.1, fun hA => h.1.2.elim (fun h3 => by rw [hA] at h3; cases h3) (fun h3 => h3), fun hA => ?_⟩; rcases h.2 with h2 | h2
   ·rw [hA] at h2; cases h2
   revert h2
   cases o.op <;> simp
 have hdi : ∀ i, i < n1 → ds.getD i 0 < a0.tmps.size := by
  intro i hi
  have : ds.getD i 0 ∈ ds := by
   rw [List.getD_eq_getElem?_getD, List.getElem?_eq_getElem (by omega)]; exact List.getElem_mem _
  exact hdt _ this
 let V : Nat → Value → World → Prop := vp Vs
 have hV : ∀ i v w w', V i v w → Below w.heap.size w w' → V i v w' := fun i v w w' h hb => (Vs.getD i SP.any).st v w w' h hb
 let F : Nat → Value → World → Prop := fun i v w => if AL.contains i then ∃ g, v = .pointer (some ⟨g, 0, none⟩) ∧ w0.heap.size ≤ g ∧ Blk w g T z else V i v w
 have hFs : ∀ i v w w', F i v w → Below w.heap.size w w' → F i v w' := by
  intro i v w w' h hb; show if _ then _ else _
  have h' : if _ then _ else _ := h
  split at h'
  ·next hA =>
   rw [if_pos hA]; obtain ⟨g, h1, h2, h3⟩ := h'; exact ⟨g, h1, h2, h3.to hb⟩
  next hA => rw [if_neg hA]; exact hV _ _ _ _ h' hb
 let I : Nat → Act → World → Prop := fun k a w => Below w0.heap.size w0 w ∧ a.defers = a0.defers ∧ a.tmps.size = a0.tmps.size ∧ (∀ t, t ∉ ds → a0.tmps[t]? = a.tmps[t]?) ∧
  (∀ i, i < n1 → i < k → F i (a.eval (.tmp (ds.getD i 0))) w) ∧
  (∀ i j, AL.contains i = true → AL.contains j = true → i ≠ j → i < k → j < k → a.eval (.tmp (ds.getD i 0)) ≠ a.eval (.tmp (ds.getD j 0)))
 have hAlt : ∀ i, AL.contains i = true → i < n1 := fun i h => hAA i (by simpa using h)
 have key : ∀ a w i v w', I i a w → i < n1 → Below w.heap.size w w' → F i v w' → (AL.contains i = true → ∀ j, AL.contains j = true → i ≠ j → j < i → v ≠ a.eval (.tmp (ds.getD j 0))) → I (i + 1) (a.put (some (ds.getD i 0)) v) w' := by
  intro a w i v w' ⟨hb, hdf, hts, hot, hf, hne⟩ hi hb' hv hd; refine ⟨below_then hb hb.size hb', hdf, by simp [Act.put, hts], fun t ht => ?_, fun j hj hL => ?_, fun j k hj hk hjk hLj hLk => ?_⟩
  ·have : ds.getD i 0 ≠ t := fun e => ht (by rw [← e, List.getD_eq_getElem?_getD, List.getElem?_eq_getElem (by omega)]; exact List.getElem_mem _)
   show _ = (a.tmps.setIfInBounds _ _)[t]?; rw [Array.getElem?_setIfInBounds_ne this]; exact hot t ht
  ·by_cases hij : j = i
   ·subst hij; rw [eval_put_same (by rw [hts]; exact hdi _ hi)]; exact hv
   rw [eval_put_other (nodup_ne hnd (by omega) (by omega) (Ne.symm hij))]; exact hFs _ _ _ _ (hf j hj (by omega)) hb'
  have hjn := hAlt j hj; have hkn := hAlt k hk; by_cases hji : j = i
  ·subst hji; rw [eval_put_same (by rw [hts]; exact hdi _ hi), eval_put_other (nodup_ne hnd (by omega) (by omega) hjk)]; exact hd hj k hk hjk (by omega)
  by_cases hki : k = i
  ·subst hki; rw [eval_put_same (by rw [hts]; exact hdi _ hi), eval_put_other (nodup_ne hnd (by omega) (by omega) (Ne.symm hji))]; exact Ne.symm (hd hk j hj (Ne.symm hjk) (by omega))
  rw [eval_put_other (nodup_ne hnd (by omega) (by omega) (Ne.symm hji)), eval_put_other (nodup_ne hnd (by omega) (by omega) (Ne.symm hki))]; exact hne j k hj hk hjk (by omega) (by omega)
 have main : ∀ m k, m + k = n1 → ∀ a w, I k a w → wpList Tryz.prog l.toArray Q (l.drop k) a w := by
  intro m
  induction m with
  | zero =>
   intro k hk a w ⟨hb, hdf, hts, hot, hf, hne⟩; have hk1 : k = n1 := by omega
   subst hk1; have he := putAll_eq (a := a) ds a0 hdf.symm hts.symm (fun d hd => by rw [hts]; exact hdt d hd) hot; rw [← he]; refine hend (fun t => a.eval (.tmp t)) w hb (fun i hi hA => ?_) (fun i hA => ?_) (fun i j hi hj hij => hne i j hi hj hij (hAlt i hi) (hAlt j hj))
   ·have h3 : if AL.contains i then _ else _ := hf i hi hi
    rw [if_neg (by rw [hA]; simp)] at h3; exact h3
   have h3 : if AL.contains i then _ else _ := hf i (hAlt i hA) (hAlt i hA)
   rw [if_pos hA] at h3; exact h3
  | succ m ih =>
   intro i hk a w hI; have hi : i < n1 := by omega
   obtain ⟨o, ho, hdst, hg, hal⟩ := hop1 i hi
   have hcons : l.drop i = o :: l.drop (i + 1) := by
    have hlt : i < l.length := by omega
    rw [List.getElem?_eq_getElem hlt] at ho; rw [← Option.some.inj ho]; exact (List.getElem_cons_drop (h := hlt)).symm
   have next : ∀ a w, I (i + 1) a w → wpList Tryz.prog l.toArray Q (l.drop (i + 1)) a w := ih (i + 1) (by omega); rw [hcons]; unfold wpList; by_cases hA : AL.contains i = true
   ·rw [if_pos (by simp [Region.wanted, hg hA])]; refine .inl ?_; unfold Oper.wp execOp; simp only [hal hA, Sem.run_bind, hz, Result.andThen_ok, Sem.run_pure, Oper.upon, hdst]; refine next _ _ (key a w i _ _ hI hi (below_alloc (Below.refl _ _) _) ?_ ?_)
    ·show if _ then _ else _
     rw [if_pos hA]; exact ⟨_, rfl, hI.1.size, heap_alloc_new _ _⟩
    intro _ j hj hij hL; have h3 : if AL.contains j then _ else _ := hI.2.2.2.2.1 j (hAlt j hj) hL
    rw [if_pos hj] at h3; obtain ⟨g, hg1, _, hg2⟩ := h3; rw [hg1]; intro he; have := hg2.lt; injection he with he
    injection he with he
    injection he with he
    omega
   have hA' : AL.contains i = false := by simpa using hA
   have hI2 := hI; obtain ⟨hb, hdf, hts, hot, hf, hne⟩ := hI2
   have h3 := hop i hi hA' a w hb (fun t ht => by
    have := hot t (by simpa using ht); show a.tmps.getD t undef = a0.tmps.getD t undef
    simp only [Array.getD_eq_getD_getElem?, this]) (fun j hj => by
    simp only [Bool.and_eq_true, decide_eq_true_eq, Bool.not_eq_true'] at hj; have h1 : if AL.contains j then _ else _ := hf j (by omega) hj.1
    rw [if_neg (by rw [hj.2]; simp)] at h1
    exact h1)
   rw [ho] at h3; simp only at h3; rcases h3 with ⟨hw, h3⟩ | ⟨hw, hv⟩
   ·rw [if_pos hw.wanted]; refine .inl ?_; by_cases hE : E.contains i = true
    ·rw [if_pos hE] at h3; obtain ⟨v, hy, hv⟩ := h3; unfold Oper.wp; rw [hy]; show wpList _ _ _ _ (a.put o.dst v) w; rw [hdst]; exact next _ _ (key a w i v w hI hi (Below.refl _ _) (by show if _ then _ else _; rw [if_neg hA]; exact hv) (fun h => absurd h hA))
    rw [if_neg hE] at h3; refine Oper.wp_mono (fun a' w' h => ?_) h3; obtain ⟨v, rfl, hb', hv⟩ := h; exact next _ _ (key a w i v w' hI hi hb' (by show if _ then _ else _; rw [if_neg hA]; exact hv) (fun h => absurd h hA))
   rw [if_neg (by rw [hw.wanted]; simp), hdst]; exact next _ _ (key a w i undef w hI hi (Below.refl _ _) (by show if _ then _ else _; rw [if_neg hA]; exact hv) (fun h => absurd h hA))
 refine wp_region_lit ?_; have h0 := main n1 0 (by omega) a0 w0 ⟨Below.refl _ _, rfl, rfl, fun _ _ => rfl, fun i _ h => absurd h (by omega), fun i j _ _ _ h _ => absurd h (by omega)⟩; rwa [List.drop_zero] at h0
set_option maxRecDepth 100000 in
set_option maxHeartbeats 1000000 in
theorem Rats_got (f : RQ) (v0 v1 : Value) (w : World) (h0 : (isL [rC f.n]).p v0 w) (h1 : (isL [rC f.d]).p v1 w) (ht : Tab w) :
  Calls Tryz.prog 4 #[v0, v1] w (Got w (isV (.bool true)).p) := by
 obtain ⟨u0, x0, rfl, p0⟩ := isL_one.1 h0; obtain ⟨u1, x1, rfl, p1⟩ := isL_one.1 h1; clear h0 h1; go_enter Tryz.func4, Tryz.ntmps4
 go_upto_region 1 with fail
 obtain ⟨W0, hW0⟩ : ∃ W : World, W = (w.alloc (.cells #[u0, x0] 24)).alloc (.cells #[u1, x1] 24) := ⟨_, rfl⟩; rw [← hW0]; obtain ⟨he, hb⟩ := env_two (cp1 p0) (cp1 p1) hW0; have HE := Hd.mk he; have HB := Hd.mk hb; clear he hb hW0; refine wp_region_vd 7 [23, 24, 25, 22, 26, 27, 5] [3, 4, 5] [6] 26 [.bool false, .slice none 0 0, .bool false, .slice none 0 0] [isL [rC f.n], isL [rC f.d], isP (isL [zC (nrN f.n f.d), zC (nrD f.n f.d)]) (qI (nrE f.n f.d)), isP (isL [zC (nrN f.n f.d), zC (nrD f.n f.d)]) (qI (nrE f.n f.d)), isL [zC (nrN f.n f.d), zC (nrD f.n f.d)], qI (nrE f.n f.d), SP.any] (by rfl) alloc_R ?_ ?_
 ·intro i hi hA aa wx hb hs hd
  match i, hi, hA with
  | 0, _, _ => exact aL (op_ldI rfl rfl (hs 2 rfl) ((HE.out.to hb).get 0 rfl).a0) | 1, _, _ => exact aL (op_ldI rfl rfl (hs 3 rfl) ((HE.out.to hb).get 1 rfl).a0) | 2, _, _ => exact aL (op_call2 rfl rfl Tryz.call9 (NewRat_got f.n f.d _ _ _ (hd 0 rfl) (hd 1 rfl))) | 3, _, _ => exact aL (op_mv rfl (hd 2 rfl)) | 4, _, _ => exact aL (op_fst rfl (hd 3 rfl)) | 5, _, _ => exact aL (op_snd rfl (hd 3 rfl)) | 6, _, h => cases h | i + 7, h, _ => omega
 intro vs X1 hb hv hal hne; have HL0 := Hd.mk (HE.out.lt); have HBW := HB; replace HB := Hd.mk (bel_then HB.out hb); replace HE := Hd.mk (HE.out.to hb); obtain ⟨g5, e5, l5, b5⟩ : ∃ g, vs 5 = .pointer (some ⟨g, 0, none⟩) ∧ _ := hal 6 rfl; have t26 : (isL [zC (nrN f.n f.d), zC (nrD f.n f.d)]).p (vs 26) X1 := hv 4 (by decide) rfl; obtain ⟨u26, y26, p26, q26, e26, c26, k26⟩ := isL_two.1 t26; have e27 : vs 27 = .int .i64 (nrE f.n f.d) := hv 5 (by decide) rfl; simp only [PA, e5, e26, e27]; replace HE : Hd (Env X1 [⟨w.heap.size, 24, [rC f.n]⟩, ⟨w.heap.size + 1, 24, [rC f.d]⟩, ⟨g5, 26, [aC, aC]⟩]) := ⟨Env.addne (e := ⟨g5, 26, [aC, aC]⟩) HE.out ⟨_, b5, cp2 (cpz _) (cpz _)⟩ (fun e' he => Nat.ne_of_lt (Nat.lt_of_lt_of_le (HL0.out e' he) l5))⟩; have G5 : Hd (w.heap.size ≤ g5) := ⟨Nat.le_trans HBW.out.size l5⟩; clear l5 b5; clear HL0 HBW e5; refine wpList_st rfl rfl rfl rfl rfl (sto_R c26 k26 (HE.out.get 2 rfl)) ?_; have HE' : Env (putAt (putAt X1 g5 0 u26 y26) g5 2 p26 q26) [⟨w.heap.size, 24, [rC f.n]⟩, ⟨w.heap.size + 1, 24, [rC f.d]⟩, ⟨g5, 26, [zC (nrN f.n f.d), zC (nrD f.n f.d)]⟩] := HE.out.put4 2 rfl c26 k26; have HB' := below_put4 (u := u26) (v := y26) (u' := p26) (v' := q26) HB.out (show w.heap.size ≤ g5 from G5.out); generalize putAt (putAt X1 g5 0 u26 y26) g5 2 p26 q26 = X2 at *; replace HE := Hd.mk HE'; replace HB := Hd.mk HB'; clear HE' HB'; clear hv hal hne hb; go_upto_region 2 with fail
 refine wp_region_vd 7 [29, 30, 31, 28, 32, 33, 7] [3, 4, 5] [6] 26 [.bool false, .slice none 0 0, .bool false, .slice none 0 0] [isL [rC f.n], isL [rC f.d], isP (isL [zC (nrN f.n f.d), zC (nrD f.n f.d)]) (qI (nrE f.n f.d)), isP (isL [zC (nrN f.n f.d), zC (nrD f.n f.d)]) (qI (nrE f.n f.d)), isL [zC (nrN f.n f.d), zC (nrD f.n f.d)], qI (nrE f.n f.d), SP.any] (by rfl) alloc_R ?_ ?_
 ·intro i hi hA aa wx hb hs hd
  match i, hi, hA with
  | 0, _, _ => exact aL (op_ldI rfl rfl (hs 2 rfl) ((HE.out.to hb).get 0 rfl).a0) | 1, _, _ => exact aL (op_ldI rfl rfl (hs 3 rfl) ((HE.out.to hb).get 1 rfl).a0) | 2, _, _ => exact aL (op_call2 rfl rfl Tryz.call10 (rNewRat_got f.n f.d _ _ _ (hd 0 rfl) (hd 1 rfl))) | 3, _, _ => exact aL (op_mv rfl (hd 2 rfl)) | 4, _, _ => exact aL (op_fst rfl (hd 3 rfl)) | 5, _, _ => exact aL (op_snd rfl (hd 3 rfl)) | 6, _, h => cases h | i + 7, h, _ => omega
 intro vs X3 hb hv hal hne; have HL0 := Hd.mk (HE.out.lt); have HBW := HB; replace HB := Hd.mk (bel_then HB.out hb); replace HE := Hd.mk (HE.out.to hb); obtain ⟨g7, e7, l7, b7⟩ : ∃ g, vs 7 = .pointer (some ⟨g, 0, none⟩) ∧ _ := hal 6 rfl; have t32 : (isL [zC (nrN f.n f.d), zC (nrD f.n f.d)]).p (vs 32) X3 := hv 4 (by decide) rfl; obtain ⟨u32, y32, p32, q32, e32, c32, k32⟩ := isL_two.1 t32; have e33 : vs 33 = .int .i64 (nrE f.n f.d) := hv 5 (by decide) rfl; simp only [PA, e7, e32, e33]; replace HE : Hd (Env X3 [⟨w.heap.size, 24, [rC f.n]⟩, ⟨w.heap.size + 1, 24, [rC f.d]⟩, ⟨g5, 26, [zC (nrN f.n f.d), zC (nrD f.n f.d)]⟩, ⟨g7, 26, [aC, aC]⟩]) := ⟨Env.addne (e := ⟨g7, 26, [aC, aC]⟩) HE.out ⟨_, b7, cp2 (cpz _) (cpz _)⟩ (fun e' he => Nat.ne_of_lt (Nat.lt_of_lt_of_le (HL0.out e' he) l7))⟩; have G7 : Hd (w.heap.size ≤ g7) := ⟨Nat.le_trans HBW.out.size l7⟩; clear l7 b7; clear HL0 HBW e7; refine wpList_st rfl rfl rfl rfl rfl (sto_R c32 k32 (HE.out.get 3 rfl)) ?_; have HE' : Env (putAt (putAt X3 g7 0 u32 y32) g7 2 p32 q32) [⟨w.heap.size, 24, [rC f.n]⟩, ⟨w.heap.size + 1, 24, [rC f.d]⟩, ⟨g5, 26, [zC (nrN f.n f.d), zC (nrD f.n f.d)]⟩, ⟨g7, 26, [zC (nrN f.n f.d), zC (nrD f.n f.d)]⟩] := HE.out.put4 3 rfl c32 k32; have HB' := below_put4 (u := u32) (v := y32) (u' := p32) (v' := q32) HB.out (show w.heap.size ≤ g7 from G7.out); generalize putAt (putAt X3 g7 0 u32 y32) g7 2 p32 q32 = X4 at *; replace HE := Hd.mk HE'; replace HB := Hd.mk HB'; clear HE' HB'; clear hv hal hne hb; go_upto_region 3 with fail
 refine wp_region_vd 4 [34, 35, 36, 9] [2] [3] 26 [.bool false, .slice none 0 0, .bool false, .slice none 0 0] [isL [rC f.n], isL [rC f.d], isL [rC f.n, rC f.d], SP.any] (by rfl) alloc_R ?_ ?_
 ·intro i hi hA aa wx hb hs hd
  match i, hi, hA with
  | 0, _, _ => exact aL (op_ldI rfl rfl (hs 2 rfl) ((HE.out.to hb).get 0 rfl).a0) | 1, _, _ => exact aL (op_ldI rfl rfl (hs 3 rfl) ((HE.out.to hb).get 1 rfl).a0) | 2, _, _ => exact aL (op_bdR rfl (hd 0 rfl) (hd 1 rfl)) | 3, _, h => cases h | i + 4, h, _ => omega
 intro vs X5 hb hv hal hne; have HL0 := Hd.mk (HE.out.lt); have HBW := HB; replace HB := Hd.mk (bel_then HB.out hb); replace HE := Hd.mk (HE.out.to hb); obtain ⟨g9, e9, l9, b9⟩ : ∃ g, vs 9 = .pointer (some ⟨g, 0, none⟩) ∧ _ := hal 3 rfl; have t36 : (isL [rC f.n, rC f.d]).p (vs 36) X5 := hv 2 (by decide) rfl; obtain ⟨u36, y36, p36, q36, e36, c36, k36⟩ := isL_two.1 t36; simp only [PA, e9, e36]; replace HE : Hd (Env X5 [⟨w.heap.size, 24, [rC f.n]⟩, ⟨w.heap.size + 1, 24, [rC f.d]⟩, ⟨g5, 26, [zC (nrN f.n f.d), zC (nrD f.n f.d)]⟩, ⟨g7, 26, [zC (nrN f.n f.d), zC (nrD f.n f.d)]⟩, ⟨g9, 26, [aC, aC]⟩]) := ⟨Env.addne (e := ⟨g9, 26, [aC, aC]⟩) HE.out ⟨_, b9, cp2 (cpz _) (cpz _)⟩ (fun e' he => Nat.ne_of_lt (Nat.lt_of_lt_of_le (HL0.out e' he) l9))⟩; have G9 : Hd (w.heap.size ≤ g9) := ⟨Nat.le_trans HBW.out.size l9⟩; clear l9 b9; clear HL0 HBW e9; refine wpList_st rfl rfl rfl rfl rfl (sto_R c36 k36 (HE.out.get 4 rfl)) ?_; have HE' : Env (putAt (putAt X5 g9 0 u36 y36) g9 2 p36 q36) [⟨w.heap.size, 24, [rC f.n]⟩, ⟨w.heap.size + 1, 24, [rC f.d]⟩, ⟨g5, 26, [zC (nrN f.n f.d), zC (nrD f.n f.d)]⟩, ⟨g7, 26, [zC (nrN f.n f.d), zC (nrD f.n f.d)]⟩, ⟨g9, 26, [rC f.n, rC f.d]⟩] := HE.out.put4 4 rfl c36 k36; have HB' := below_put4 (u := u36) (v := y36) (u' := p36) (v' := q36) HB.out (show w.heap.size ≤ g9 from G9.out); generalize putAt (putAt X5 g9 0 u36 y36) g9 2 p36 q36 = X6 at *; replace HE := Hd.mk HE'; replace HB := Hd.mk HB'; clear HE' HB'; clear hv hal hne hb; go_upto_region 4 with fail
 refine wp_region_vg 20 [37, 38, 39, 40, 41, 42, 43, 44, 45, 46, 47, 48, 49, 50, 51, 52, 53, 54, 55, 56] [3, 4, 5, 6, 7, 8, 9, 14, 15, 16, 18, 19] [] 51 [.bool false, .slice none 0 0] [isL [zC (nrN f.n f.d), zC (nrD f.n f.d)], isL [zC (nrN f.n f.d), zC (nrD f.n f.d)], qT, qF, qF, qI (nrE f.n f.d), qI (nrE f.n f.d), qF, qF, qF, isL [rC f.n, rC f.d], isV (.bool f.ok), isL [rC f.n, rC f.d], isV (.bool f.ok), qF, qF, qF, qT, qF, qF] (by kernel_rfl) (by kernel_rfl) (by kernel_rfl) (by rfl) alloc_whole (fun d v c a w h => by cases d <;> exact h) ?_ ?_
 ·intro i hi hA aa wx hb hs hd
  match i, hi, hA with
  | 0, _, _ => exact aL (op_ldR rfl rfl (hs 5 rfl) ((HE.out.to hb).get 2 rfl)) | 1, _, _ => exact aL (op_ldR rfl rfl (hs 7 rfl) ((HE.out.to hb).get 3 rfl)) | 2, _, _ => exact aL (op_call2 rfl rfl Tryz.call7 (SameRat_got (nrN f.n f.d) (nrD f.n f.d) _ _ _ (hd 0 rfl) (hd 1 rfl))) | 3, _, _ => exact aL ⟨_, op_not rfl (hd 2 rfl), rfl⟩ | 4, _, _ => exact aL (op_mv rfl (hd 3 rfl)) | 5, _, _ => exact .inl ⟨⟨rfl, hd 4 rfl⟩, op_mv rfl (hs 6 rfl)⟩ | 6, _, _ => exact .inl ⟨⟨rfl, hd 4 rfl⟩, op_mv rfl (hs 8 rfl)⟩ | 7, _, _ => exact .inl ⟨⟨rfl, hd 4 rfl⟩, ⟨_, op_neqSE rfl (hd 5 rfl) (hd 6 rfl), rfl⟩⟩ | 8, _, _ => exact aL ⟨_, op_pickF rfl (hd 4 rfl) (hd 7 rfl), rfl⟩ | 9, _, _ => exact aL (op_mv rfl (hd 8 rfl)) | 10, _, _ => exact .inl ⟨⟨rfl, hd 9 rfl⟩, op_ldR rfl rfl (hs 9 rfl) ((HE.out.to hb).get 4 rfl)⟩ | 11, _, _ => exact .inl ⟨⟨rfl, hd 9 rfl⟩, op_call1 rfl rfl Tryz.call11 (VRat_got f _ _ (hd 10 rfl))⟩ | 12, _, _ => exact .inl ⟨⟨rfl, hd 9 rfl⟩, op_ldR rfl rfl (hs 9 rfl) ((HE.out.to hb).get 4 rfl)⟩ | 13, _, _ => exact .inl ⟨⟨rfl, hd 9 rfl⟩, op_call1 rfl rfl Tryz.call12 (ValidRat_got f _ _ (hd 12 rfl))⟩ | 14, _, _ => exact .inl ⟨⟨rfl, hd 9 rfl⟩, ⟨_, op_neqSB rfl (hd 11 rfl) (hd 13 rfl), rfl⟩⟩ | 15, _, _ => exact aL ⟨_, op_pickF rfl (hd 9 rfl) (hd 14 rfl), rfl⟩ | 16, _, _ => exact aL (op_mv rfl (hd 15 rfl)) | 17, _, _ => exact .inl ⟨⟨rfl, hd 16 rfl⟩, op_call0 rfl rfl Tryz.call8 (awake_got _)⟩ | 18, _, _ => exact .inl ⟨⟨rfl, hd 16 rfl⟩, ⟨_, op_not rfl (hd 17 rfl), rfl⟩⟩ | 19, _, _ => exact aL ⟨_, op_pickF rfl (hd 16 rfl) (hd 18 rfl), rfl⟩ | i + 20, h, _ => omega
 intro vs X7 hb hv hal hne; replace HB := Hd.mk (bel_then HB.out hb); replace HE := Hd.mk (HE.out.to hb); have e56 : vs 56 = .bool false := hv 19 (by decide) rfl; simp only [PA, e56]; clear hv hal hne hb; obtain ⟨q, hq⟩ := lift_two (HE.out.get 2 rfl); replace HE : Hd (Env X7 [⟨w.heap.size, 24, [rC f.n]⟩, ⟨w.heap.size + 1, 24, [rC f.d]⟩, ⟨g5, 26, [rC q.n, rC q.d]⟩, ⟨g7, 26, [zC (nrN f.n f.d), zC (nrD f.n f.d)]⟩, ⟨g9, 26, [rC f.n, rC f.d]⟩]) := ⟨HE.out.swap 2 rfl hq⟩; clear hq; go_upto_region 6 with fail
 refine wp_region_vd 5 [57, 58, 59, 60, 61] [4] [] 51 [.bool false, .slice none 0 0] [isL [rC q.n, rC q.d], isL [rC f.n, rC f.d], isRats [q, f], qI 2, qI 0] (by rfl) alloc_whole ?_ ?_
 ·intro i hi hA aa wx hb hs hd
  match i, hi, hA with
  | 0, _, _ => exact aL (op_ldR rfl rfl (hs 5 rfl) ((HE.out.to hb).get 2 rfl)) | 1, _, _ => exact aL (op_ldR rfl rfl (hs 9 rfl) ((HE.out.to hb).get 4 rfl)) | 2, _, _ => exact aL (op_bsR2 rfl rfl (hd 0 rfl) (hd 1 rfl)) | 3, _, _ => exact aL (op_len2 rfl rfl (hd 2 rfl)) | 4, _, _ => exact aL ⟨_, op_move rfl rfl, rfl⟩ | i + 5, h, _ => omega
 intro vs X8 hb hv hal hne; replace HB := Hd.mk (bel_then HB.out hb); replace HE := Hd.mk (HE.out.to hb); have t59 : (isRats [q, f]).p (vs 59) X8 := hv 2 (by decide) rfl; obtain ⟨g59, e59, r59⟩ := t59; replace e59 : vs 59 = .slice (some ⟨g59, 0, none⟩) 2 2 := e59; have e60 : vs 60 = .int .i64 2 := hv 3 (by decide) rfl; have e61 : vs 61 = .int .i64 0 := hv 4 (by decide) rfl; simp only [PA, e59, e60, e61]; clear hv hal hne hb; replace HB := HB.out; clear HE; go_wp2_with fail
 go_loopw [61] (fun s wr => ∃ k : Nat, k ≤ 2 ∧ s = .int .i64 k ∧ RatsAt [q, f] g59 wr ∧ Below w.heap.size w wr) (fun s _ => 2 - (intOf s).toNat)
 case atStart => exact ⟨0, Nat.zero_le _, rfl, r59, HB⟩
 case round =>
  clear HB r59; obtain ⟨k, hk, rfl, hrats, hbel⟩ := hrel; have HR := Hd.mk hrats; have HA := Hd.mk hbel; have HT := Hd.mk (ht.to hbel); clear hrats hbel; by_cases hlt : k < 2
  ·obtain ⟨p, hr⟩ : ∃ r, [q, f][k]? = some r := ⟨_, List.getElem?_eq_getElem hlt⟩; obtain ⟨⟨u, v, hc0, hc1, p1⟩, ⟨x, y, hc2, hc3, p2⟩⟩ := HR.out k p hr; obtain ⟨b1, A1, m1, c1, rfl, rfl⟩ := (rC _).nb _ _ _ p1; obtain ⟨b2, A2, m2, c2, rfl, rfl⟩ := (rC _).nb _ _ _ p2; clear hr; have HLN := Hd.mk (qpS_len p1 p2); go_upto_region 9 with fail
   obtain ⟨W0, hW0⟩ : ∃ W : World, W = wr.alloc (.cells #[.bool b1, .slice A1 m1 c1, .bool b2, .slice A2 m2 c2] 26) := ⟨_, rfl⟩; rw [← hW0]; obtain ⟨he, hb⟩ := env_one (cp2 p1 p2) hW0; have HE := Hd.mk he; have HB := Hd.mk hb; clear he hb hW0; by_cases hok : p.ok = true
   ·obtain ⟨hq1, hq2, hq3⟩ := rq_back hok p1 p2; have HQN := Hd.mk hq1; have HQD := Hd.mk hq2; have HJ0 : Hd ((!decide (rqE (qpS p) = 0)) = false) := ⟨by rw [decide_eq_true hq3]; rfl⟩; have HE0 : Hd (decide (qpE p = 0) = true) := ⟨decide_eq_true (if_pos hok)⟩; have HOP := Hd.mk hok; clear hok hq1 hq2 hq3 p1 p2 hc0 hc1 hc2 hc3; skip
    refine wp_region_vd 5 [66, 67, 65, 68, 69] [2, 3, 4] [] 51 [.bool false, .slice none 0 0] [isL [rC p.n, rC p.d], isP (isV (.string ⟨(qpS p).toArray⟩)) (qI (qpE p)), isP (isV (.string ⟨(qpS p).toArray⟩)) (qI (qpE p)), isV (.string ⟨(qpS p).toArray⟩), qI (qpE p)] (by rfl) alloc_whole ?_ ?_
    ·intro i hi hA aa wx hb hs hd
     match i, hi, hA with
     | 0, _, _ => exact aL (op_ldR rfl rfl (hs 11 rfl) ((HE.out.to hb).get 0 rfl)) | 1, _, _ => exact aL (op_call1 rfl rfl Tryz.call13 (RatPrint_got p _ _ (hd 0 rfl))) | 2, _, _ => exact aL (op_mv rfl (hd 1 rfl)) | 3, _, _ => exact aL (op_fst rfl (hd 2 rfl)) | 4, _, _ => exact aL (op_snd rfl (hd 2 rfl)) | i + 5, h, _ => omega
    intro vs X1 hb hv hal hne; replace HB := Hd.mk (bel_then HB.out hb); replace HE := Hd.mk (HE.out.to hb); have e68 : vs 68 = .string ⟨(qpS p).toArray⟩ := hv 3 (by decide) rfl; have e69 : vs 69 = .int .i64 (qpE p) := hv 4 (by decide) rfl; simp only [PA, e68, e69]; clear hv hal hne hb; go_upto_region 10 with fail
    refine wp_region_vd 5 [71, 72, 70, 73, 74] [2, 3, 4] [] 51 [.bool false, .slice none 0 0] [isL [rC p.n, rC p.d], isP (isV (.string ⟨(qpS p).toArray⟩)) (qI (qpE p)), isP (isV (.string ⟨(qpS p).toArray⟩)) (qI (qpE p)), isV (.string ⟨(qpS p).toArray⟩), qI (qpE p)] (by rfl) alloc_whole ?_ ?_
    ·intro i hi hA aa wx hb hs hd
     match i, hi, hA with
     | 0, _, _ => exact aL (op_ldR rfl rfl (hs 11 rfl) ((HE.out.to hb).get 0 rfl)) | 1, _, _ => exact aL (op_call1 rfl rfl Tryz.call14 (rRatPrint_got p _ _ (HT.out.to (bel_then HB.out hb)) (hd 0 rfl))) | 2, _, _ => exact aL (op_mv rfl (hd 1 rfl)) | 3, _, _ => exact aL (op_fst rfl (hd 2 rfl)) | 4, _, _ => exact aL (op_snd rfl (hd 2 rfl)) | i + 5, h, _ => omega
    intro vs X2 hb hv hal hne; replace HB := Hd.mk (bel_then HB.out hb); replace HE := Hd.mk (HE.out.to hb); have e73 : vs 73 = .string ⟨(qpS p).toArray⟩ := hv 3 (by decide) rfl; have e74 : vs 74 = .int .i64 (qpE p) := hv 4 (by decide) rfl; simp only [PA, e73, e74]; clear hv hal hne hb; go_upto_region 11 with fail
    refine wp_region_vd 6 [76, 77, 75, 78, 79, 16] [2, 3, 4] [5] 24 [.bool false, .slice none 0 0] [isL [rC p.n, rC p.d], isP (isZ (rfn p)) (qI (rfe p)), isP (isZ (rfn p)) (qI (rfe p)), isZ (rfn p), qI (rfe p), SP.any] (by rfl) alloc_api ?_ ?_
    ·intro i hi hA aa wx hb hs hd
     match i, hi, hA with
     | 0, _, _ => exact aL (op_ldR rfl rfl (hs 11 rfl) ((HE.out.to hb).get 0 rfl)) | 1, _, _ => exact aL (op_call1 rfl rfl Tryz.call15 (RatFloor_got p _ _ (hd 0 rfl))) | 2, _, _ => exact aL (op_mv rfl (hd 1 rfl)) | 3, _, _ => exact aL (op_fst rfl (hd 2 rfl)) | 4, _, _ => exact aL (op_snd rfl (hd 2 rfl)) | 5, _, h => cases h | i + 6, h, _ => omega
    intro vs X3 hb hv hal hne; have HL0 := Hd.mk (HE.out.lt); have HBW := HB; replace HB := Hd.mk (bel_then HB.out hb); replace HE := Hd.mk (HE.out.to hb); obtain ⟨g16, e16, l16, b16⟩ : ∃ g, vs 16 = .pointer (some ⟨g, 0, none⟩) ∧ _ := hal 5 rfl; have t78 : (isZ (rfn p)).p (vs 78) X3 := hv 3 (by decide) rfl; obtain ⟨u78, y78, e78, c78⟩ := isL_one.1 (isL_isZ.2 t78); have e79 : vs 79 = .int .i64 (rfe p) := hv 4 (by decide) rfl; simp only [PA, e16, e78, e79]; replace HE : Hd (Env X3 [⟨wr.heap.size, 26, [rC p.n, rC p.d]⟩, ⟨g16, 24, [aC]⟩]) := ⟨Env.addne (e := ⟨g16, 24, [aC]⟩) HE.out ⟨_, b16, cp1 (cpz _)⟩ (fun e' he => Nat.ne_of_lt (Nat.lt_of_lt_of_le (HL0.out e' he) l16))⟩; have G16 : Hd (wr.heap.size ≤ g16) := ⟨Nat.le_trans HBW.out.size l16⟩; clear l16 b16; clear HL0 HBW e16; refine wpList_st rfl rfl rfl rfl rfl (sto_I c78 (Slot.one _) (HE.out.get 1 rfl)) ?_; have HE' : Env (putAt X3 g16 0 u78 y78) [⟨wr.heap.size, 26, [rC p.n, rC p.d]⟩, ⟨g16, 24, [zC (rfn p)]⟩] := HE.out.put1 1 rfl c78; have HB' := below_putAt (o := 0) (u := u78) (v := y78) HB.out (show wr.heap.size ≤ g16 from G16.out); generalize putAt X3 g16 0 u78 y78 = X4 at *; replace HE := Hd.mk HE'; replace HB := Hd.mk HB'; clear HE' HB'; clear hv hal hne hb; go_upto_region 12 with fail
    refine wp_region_vd 6 [81, 82, 80, 83, 84, 18] [2, 3, 4] [5] 24 [.bool false, .slice none 0 0] [isL [rC p.n, rC p.d], isP (isZ (rfn p)) (qI (rfe p)), isP (isZ (rfn p)) (qI (rfe p)), isZ (rfn p), qI (rfe p), SP.any] (by rfl) alloc_api ?_ ?_
    ·intro i hi hA aa wx hb hs hd
     match i, hi, hA with
     | 0, _, _ => exact aL (op_ldR rfl rfl (hs 11 rfl) ((HE.out.to hb).get 0 rfl)) | 1, _, _ => exact aL (op_call1 rfl rfl Tryz.call16 (rFloorR_got p _ _ (hd 0 rfl))) | 2, _, _ => exact aL (op_mv rfl (hd 1 rfl)) | 3, _, _ => exact aL (op_fst rfl (hd 2 rfl)) | 4, _, _ => exact aL (op_snd rfl (hd 2 rfl)) | 5, _, h => cases h | i + 6, h, _ => omega
    intro vs X5 hb hv hal hne; have HL0 := Hd.mk (HE.out.lt); have HBW := HB; replace HB := Hd.mk (bel_then HB.out hb); replace HE := Hd.mk (HE.out.to hb); obtain ⟨g18, e18, l18, b18⟩ : ∃ g, vs 18 = .pointer (some ⟨g, 0, none⟩) ∧ _ := hal 5 rfl; have t83 : (isZ (rfn p)).p (vs 83) X5 := hv 3 (by decide) rfl; obtain ⟨u83, y83, e83, c83⟩ := isL_one.1 (isL_isZ.2 t83); have e84 : vs 84 = .int .i64 (rfe p) := hv 4 (by decide) rfl; simp only [PA, e18, e83, e84]; replace HE : Hd (Env X5 [⟨wr.heap.size, 26, [rC p.n, rC p.d]⟩, ⟨g16, 24, [zC (rfn p)]⟩, ⟨g18, 24, [aC]⟩]) := ⟨Env.addne (e := ⟨g18, 24, [aC]⟩) HE.out ⟨_, b18, cp1 (cpz _)⟩ (fun e' he => Nat.ne_of_lt (Nat.lt_of_lt_of_le (HL0.out e' he) l18))⟩; have G18 : Hd (wr.heap.size ≤ g18) := ⟨Nat.le_trans HBW.out.size l18⟩; clear l18 b18; clear HL0 HBW e18; refine wpList_st rfl rfl rfl rfl rfl (sto_I c83 (Slot.one _) (HE.out.get 2 rfl)) ?_; have HE' : Env (putAt X5 g18 0 u83 y83) [⟨wr.heap.size, 26, [rC p.n, rC p.d]⟩, ⟨g16, 24, [zC (rfn p)]⟩, ⟨g18, 24, [zC (rfn p)]⟩] := HE.out.put1 2 rfl c83; have HB' := below_putAt (o := 0) (u := u83) (v := y83) HB.out (show wr.heap.size ≤ g18 from G18.out); generalize putAt X5 g18 0 u83 y83 = X6 at *; replace HE := Hd.mk HE'; replace HB := Hd.mk HB'; clear HE' HB'; clear hv hal hne hb; go_upto_region 13 with fail
    refine wp_region_vd 6 [86, 87, 85, 88, 89, 20] [0, 2, 3, 4] [5] 26 [.bool false, .slice none 0 0, .bool false, .slice none 0 0] [isV (.string ⟨(qpS p).toArray⟩), isP (isL [zC (rqN (qpS p)), zC (rqD (qpS p))]) (qI (rqE (qpS p))), isP (isL [zC (rqN (qpS p)), zC (rqD (qpS p))]) (qI (rqE (qpS p))), isL [zC (rqN (qpS p)), zC (rqD (qpS p))], qI (rqE (qpS p)), SP.any] (by rfl) alloc_R ?_ ?_
    ·intro i hi hA aa wx hb hs hd
     match i, hi, hA with
     | 0, _, _ => exact aL (op_mv rfl (hs 12 rfl)) | 1, _, _ => exact aL (op_call1 rfl rfl Tryz.call5 (RatParse_got (qpS p) HLN.out _ _ (hd 0 rfl))) | 2, _, _ => exact aL (op_mv rfl (hd 1 rfl)) | 3, _, _ => exact aL (op_fst rfl (hd 2 rfl)) | 4, _, _ => exact aL (op_snd rfl (hd 2 rfl)) | 5, _, h => cases h | i + 6, h, _ => omega
    intro vs X7 hb hv hal hne; have HL0 := Hd.mk (HE.out.lt); have HBW := HB; replace HB := Hd.mk (bel_then HB.out hb); replace HE := Hd.mk (HE.out.to hb); obtain ⟨g20, e20, l20, b20⟩ : ∃ g, vs 20 = .pointer (some ⟨g, 0, none⟩) ∧ _ := hal 5 rfl; have t88 : (isL [zC (rqN (qpS p)), zC (rqD (qpS p))]).p (vs 88) X7 := hv 3 (by decide) rfl; obtain ⟨u88, y88, p88, q88, e88, c88, k88⟩ := isL_two.1 t88; have e89 : vs 89 = .int .i64 (rqE (qpS p)) := hv 4 (by decide) rfl; simp only [PA, e20, e88, e89]; replace HE : Hd (Env X7 [⟨wr.heap.size, 26, [rC p.n, rC p.d]⟩, ⟨g16, 24, [zC (rfn p)]⟩, ⟨g18, 24, [zC (rfn p)]⟩, ⟨g20, 26, [aC, aC]⟩]) := ⟨Env.addne (e := ⟨g20, 26, [aC, aC]⟩) HE.out ⟨_, b20, cp2 (cpz _) (cpz _)⟩ (fun e' he => Nat.ne_of_lt (Nat.lt_of_lt_of_le (HL0.out e' he) l20))⟩; have G20 : Hd (wr.heap.size ≤ g20) := ⟨Nat.le_trans HBW.out.size l20⟩; clear l20 b20; clear HL0 HBW e20; refine wpList_st rfl rfl rfl rfl rfl (sto_R c88 k88 (HE.out.get 3 rfl)) ?_; have HE' : Env (putAt (putAt X7 g20 0 u88 y88) g20 2 p88 q88) [⟨wr.heap.size, 26, [rC p.n, rC p.d]⟩, ⟨g16, 24, [zC (rfn p)]⟩, ⟨g18, 24, [zC (rfn p)]⟩, ⟨g20, 26, [zC (rqN (qpS p)), zC (rqD (qpS p))]⟩] := HE.out.put4 3 rfl c88 k88; have HB' := below_put4 (u := u88) (v := y88) (u' := p88) (v' := q88) HB.out (show wr.heap.size ≤ g20 from G20.out); generalize putAt (putAt X7 g20 0 u88 y88) g20 2 p88 q88 = X8 at *; replace HE := Hd.mk HE'; replace HB := Hd.mk HB'; clear HE' HB'; clear hv hal hne hb; go_upto_region 14 with fail
    refine wp_region_vd 33 [90, 91, 92, 93, 94, 95, 96, 97, 98, 99, 100, 101, 102, 103, 104, 105, 106, 107, 108, 109, 110, 111, 112, 113, 114, 115, 116, 117, 118, 119, 120, 121, 122] [0, 1, 2, 3, 4, 5, 6, 7, 8, 12, 13, 14, 15, 16, 17, 18, 19, 20, 21, 22, 23, 24, 25, 29, 30, 31, 32] [] 51 [.bool false, .slice none 0 0] [isV (.string ⟨(qpS p).toArray⟩), isV (.string ⟨(qpS p).toArray⟩), qF, qF, qI (qpE p), qI (qpE p), qF, qF, qF, isZ (rfn p), isZ (rfn p), qT, qF, qF, qF, qI (rfe p), qI (rfe p), qF, qF, qF, qI (qpE p), qT, qT, qI (rqE (qpS p)), qF, qF, isL [rC p.n, rC p.d], isL [zC (rqN (qpS p)), zC (rqD (qpS p))], qT, qF, qF, qF, qF] (by rfl) alloc_whole ?_ ?_
    ·intro i hi hA aa wx hb hs hd
     match i, hi, hA with
     | 0, _, _ => exact aL (op_mv rfl (hs 12 rfl)) | 1, _, _ => exact aL (op_mv rfl (hs 14 rfl)) | 2, _, _ => exact aL ⟨_, op_neqSS rfl (hd 0 rfl) (hd 1 rfl), rfl⟩ | 3, _, _ => exact aL (op_mv rfl (hd 2 rfl)) | 4, _, _ => exact .inl ⟨⟨rfl, hd 3 rfl⟩, op_mv rfl (hs 13 rfl)⟩ | 5, _, _ => exact .inl ⟨⟨rfl, hd 3 rfl⟩, op_mv rfl (hs 15 rfl)⟩ | 6, _, _ => exact .inl ⟨⟨rfl, hd 3 rfl⟩, ⟨_, op_neqSE rfl (hd 4 rfl) (hd 5 rfl), rfl⟩⟩ | 7, _, _ => exact aL ⟨_, op_pickF rfl (hd 3 rfl) (hd 6 rfl), rfl⟩ | 8, _, _ => exact aL (op_mv rfl (hd 7 rfl)) | 9, _, _ => exact .inl ⟨⟨rfl, hd 8 rfl⟩, op_ldIz rfl rfl (hs 16 rfl) ((HE.out.to hb).get 1 rfl).a0⟩ | 10, _, _ => exact .inl ⟨⟨rfl, hd 8 rfl⟩, op_ldIz rfl rfl (hs 18 rfl) ((HE.out.to hb).get 2 rfl).a0⟩ | 11, _, _ => exact .inl ⟨⟨rfl, hd 8 rfl⟩, wp_b (decide_eq_true rfl) (op_call2 rfl rfl Tryz.call17 (same_zz (rfn p) (rfn p) _ _ _ (hd 9 rfl) (hd 10 rfl)))⟩ | 12, _, _ => exact .inl ⟨⟨rfl, hd 8 rfl⟩, ⟨_, op_not rfl (hd 11 rfl), rfl⟩⟩ | 13, _, _ => exact aL ⟨_, op_pickF rfl (hd 8 rfl) (hd 12 rfl), rfl⟩ | 14, _, _ => exact aL (op_mv rfl (hd 13 rfl)) | 15, _, _ => exact .inl ⟨⟨rfl, hd 14 rfl⟩, op_mv rfl (hs 17 rfl)⟩ | 16, _, _ => exact .inl ⟨⟨rfl, hd 14 rfl⟩, op_mv rfl (hs 19 rfl)⟩ | 17, _, _ => exact .inl ⟨⟨rfl, hd 14 rfl⟩, ⟨_, op_neqSE rfl (hd 15 rfl) (hd 16 rfl), rfl⟩⟩ | 18, _, _ => exact aL ⟨_, op_pickF rfl (hd 14 rfl) (hd 17 rfl), rfl⟩ | 19, _, _ => exact aL (op_mv rfl (hd 18 rfl)) | 20, _, _ => exact .inl ⟨⟨rfl, hd 19 rfl⟩, op_mv rfl (hs 13 rfl)⟩ | 21, _, _ => exact .inl ⟨⟨rfl, hd 19 rfl⟩, pure_b HE0.out (⟨_, op_eqlcE rfl (hd 20 rfl), rfl⟩)⟩ | 22, _, _ => exact .inl ⟨⟨rfl, hd 19 rfl⟩, op_mv rfl (hd 21 rfl)⟩ | 23, _, _ => exact .inl ⟨⟨rfl, hd 22 rfl⟩, op_mv rfl (hs 21 rfl)⟩ | 24, _, _ => exact .inl ⟨⟨rfl, hd 22 rfl⟩, pure_b HJ0.out (⟨_, op_neqcE rfl (hd 23 rfl), rfl⟩)⟩ | 25, _, _ => exact .inl ⟨⟨rfl, hd 22 rfl⟩, op_mv rfl (hd 24 rfl)⟩ | 26, _, _ => exact .inl ⟨⟨rfl, hd 25 rfl⟩, op_ldR rfl rfl (hs 11 rfl) ((HE.out.to hb).get 0 rfl)⟩ | 27, _, _ => exact .inl ⟨⟨rfl, hd 25 rfl⟩, op_ldR rfl rfl (hs 20 rfl) ((HE.out.to hb).get 3 rfl)⟩ | 28, _, _ => exact .inl ⟨⟨rfl, hd 25 rfl⟩, wp_b rfl (op_call2 rfl rfl Tryz.call7 (SameRat_rz p HOP.out HQN.out HQD.out _ _ _ (hd 26 rfl) (hd 27 rfl)))⟩ | 29, _, _ => exact .inl ⟨⟨rfl, hd 25 rfl⟩, ⟨_, op_not rfl (hd 28 rfl), rfl⟩⟩ | 30, _, _ => exact .inl ⟨⟨rfl, hd 22 rfl⟩, ⟨_, op_pickF rfl (hd 25 rfl) (hd 29 rfl), rfl⟩⟩ | 31, _, _ => exact .inl ⟨⟨rfl, hd 19 rfl⟩, ⟨_, op_pickT rfl (hd 22 rfl) (hd 30 rfl), rfl⟩⟩ | 32, _, _ => exact aL ⟨_, op_pickF rfl (hd 19 rfl) (hd 31 rfl), rfl⟩ | i + 33, h, _ => omega
    intro vs X9 hb hv hal hne; replace HB := Hd.mk (bel_then HB.out hb); replace HE := Hd.mk (HE.out.to hb); have e122 : vs 122 = .bool false := hv 32 (by decide) rfl; simp only [PA, e122]; clear hv hal hne hb; go_wp2_with fail
    go_roundw
    case rel => exact ⟨k + 1, by omega, by go_num, HR.out.to HB.out, below_then HA.out HA.out.size HB.out⟩
    case measure => simp [intOf]; omega
   have HE0 : Hd (decide (qpE p = 0) = false) := ⟨decide_eq_false (by rw [show qpE p = 2 from if_neg hok]; decide)⟩; clear hok p1 p2 hc0 hc1 hc2 hc3; skip
   refine wp_region_vd 5 [66, 67, 65, 68, 69] [2, 3, 4] [] 51 [.bool false, .slice none 0 0] [isL [rC p.n, rC p.d], isP (isV (.string ⟨(qpS p).toArray⟩)) (qI (qpE p)), isP (isV (.string ⟨(qpS p).toArray⟩)) (qI (qpE p)), isV (.string ⟨(qpS p).toArray⟩), qI (qpE p)] (by rfl) alloc_whole ?_ ?_
   ·intro i hi hA aa wx hb hs hd
    match i, hi, hA with
    | 0, _, _ => exact aL (op_ldR rfl rfl (hs 11 rfl) ((HE.out.to hb).get 0 rfl)) | 1, _, _ => exact aL (op_call1 rfl rfl Tryz.call13 (RatPrint_got p _ _ (hd 0 rfl))) | 2, _, _ => exact aL (op_mv rfl (hd 1 rfl)) | 3, _, _ => exact aL (op_fst rfl (hd 2 rfl)) | 4, _, _ => exact aL (op_snd rfl (hd 2 rfl)) | i + 5, h, _ => omega
   intro vs X1 hb hv hal hne; replace HB := Hd.mk (bel_then HB.out hb); replace HE := Hd.mk (HE.out.to hb); have e68 : vs 68 = .string ⟨(qpS p).toArray⟩ := hv 3 (by decide) rfl; have e69 : vs 69 = .int .i64 (qpE p) := hv 4 (by decide) rfl; simp only [PA, e68, e69]; clear hv hal hne hb; go_upto_region 10 with fail
   refine wp_region_vd 5 [71, 72, 70, 73, 74] [2, 3, 4] [] 51 [.bool false, .slice none 0 0] [isL [rC p.n, rC p.d], isP (isV (.string ⟨(qpS p).toArray⟩)) (qI (qpE p)), isP (isV (.string ⟨(qpS p).toArray⟩)) (qI (qpE p)), isV (.string ⟨(qpS p).toArray⟩), qI (qpE p)] (by rfl) alloc_whole ?_ ?_
   ·intro i hi hA aa wx hb hs hd
    match i, hi, hA with
    | 0, _, _ => exact aL (op_ldR rfl rfl (hs 11 rfl) ((HE.out.to hb).get 0 rfl)) | 1, _, _ => exact aL (op_call1 rfl rfl Tryz.call14 (rRatPrint_got p _ _ (HT.out.to (bel_then HB.out hb)) (hd 0 rfl))) | 2, _, _ => exact aL (op_mv rfl (hd 1 rfl)) | 3, _, _ => exact aL (op_fst rfl (hd 2 rfl)) | 4, _, _ => exact aL (op_snd rfl (hd 2 rfl)) | i + 5, h, _ => omega
   intro vs X2 hb hv hal hne; replace HB := Hd.mk (bel_then HB.out hb); replace HE := Hd.mk (HE.out.to hb); have e73 : vs 73 = .string ⟨(qpS p).toArray⟩ := hv 3 (by decide) rfl; have e74 : vs 74 = .int .i64 (qpE p) := hv 4 (by decide) rfl; simp only [PA, e73, e74]; clear hv hal hne hb; go_upto_region 11 with fail
   refine wp_region_vd 6 [76, 77, 75, 78, 79, 16] [2, 3, 4] [5] 24 [.bool false, .slice none 0 0] [isL [rC p.n, rC p.d], isP (isZ (rfn p)) (qI (rfe p)), isP (isZ (rfn p)) (qI (rfe p)), isZ (rfn p), qI (rfe p), SP.any] (by rfl) alloc_api ?_ ?_
   ·intro i hi hA aa wx hb hs hd
    match i, hi, hA with
    | 0, _, _ => exact aL (op_ldR rfl rfl (hs 11 rfl) ((HE.out.to hb).get 0 rfl)) | 1, _, _ => exact aL (op_call1 rfl rfl Tryz.call15 (RatFloor_got p _ _ (hd 0 rfl))) | 2, _, _ => exact aL (op_mv rfl (hd 1 rfl)) | 3, _, _ => exact aL (op_fst rfl (hd 2 rfl)) | 4, _, _ => exact aL (op_snd rfl (hd 2 rfl)) | 5, _, h => cases h | i + 6, h, _ => omega
   intro vs X3 hb hv hal hne; have HL0 := Hd.mk (HE.out.lt); have HBW := HB; replace HB := Hd.mk (bel_then HB.out hb); replace HE := Hd.mk (HE.out.to hb); obtain ⟨g16, e16, l16, b16⟩ : ∃ g, vs 16 = .pointer (some ⟨g, 0, none⟩) ∧ _ := hal 5 rfl; have t78 : (isZ (rfn p)).p (vs 78) X3 := hv 3 (by decide) rfl; obtain ⟨u78, y78, e78, c78⟩ := isL_one.1 (isL_isZ.2 t78); have e79 : vs 79 = .int .i64 (rfe p) := hv 4 (by decide) rfl; simp only [PA, e16, e78, e79]; replace HE : Hd (Env X3 [⟨wr.heap.size, 26, [rC p.n, rC p.d]⟩, ⟨g16, 24, [aC]⟩]) := ⟨Env.addne (e := ⟨g16, 24, [aC]⟩) HE.out ⟨_, b16, cp1 (cpz _)⟩ (fun e' he => Nat.ne_of_lt (Nat.lt_of_lt_of_le (HL0.out e' he) l16))⟩; have G16 : Hd (wr.heap.size ≤ g16) := ⟨Nat.le_trans HBW.out.size l16⟩; clear l16 b16; clear HL0 HBW e16; refine wpList_st rfl rfl rfl rfl rfl (sto_I c78 (Slot.one _) (HE.out.get 1 rfl)) ?_; have HE' : Env (putAt X3 g16 0 u78 y78) [⟨wr.heap.size, 26, [rC p.n, rC p.d]⟩, ⟨g16, 24, [zC (rfn p)]⟩] := HE.out.put1 1 rfl c78; have HB' := below_putAt (o := 0) (u := u78) (v := y78) HB.out (show wr.heap.size ≤ g16 from G16.out); generalize putAt X3 g16 0 u78 y78 = X4 at *; replace HE := Hd.mk HE'; replace HB := Hd.mk HB'; clear HE' HB'; clear hv hal hne hb; go_upto_region 12 with fail
   refine wp_region_vd 6 [81, 82, 80, 83, 84, 18] [2, 3, 4] [5] 24 [.bool false, .slice none 0 0] [isL [rC p.n, rC p.d], isP (isZ (rfn p)) (qI (rfe p)), isP (isZ (rfn p)) (qI (rfe p)), isZ (rfn p), qI (rfe p), SP.any] (by rfl) alloc_api ?_ ?_
   ·intro i hi hA aa wx hb hs hd
    match i, hi, hA with
    | 0, _, _ => exact aL (op_ldR rfl rfl (hs 11 rfl) ((HE.out.to hb).get 0 rfl)) | 1, _, _ => exact aL (op_call1 rfl rfl Tryz.call16 (rFloorR_got p _ _ (hd 0 rfl))) | 2, _, _ => exact aL (op_mv rfl (hd 1 rfl)) | 3, _, _ => exact aL (op_fst rfl (hd 2 rfl)) | 4, _, _ => exact aL (op_snd rfl (hd 2 rfl)) | 5, _, h => cases h | i + 6, h, _ => omega
   intro vs X5 hb hv hal hne; have HL0 := Hd.mk (HE.out.lt); have HBW := HB; replace HB := Hd.mk (bel_then HB.out hb); replace HE := Hd.mk (HE.out.to hb); obtain ⟨g18, e18, l18, b18⟩ : ∃ g, vs 18 = .pointer (some ⟨g, 0, none⟩) ∧ _ := hal 5 rfl; have t83 : (isZ (rfn p)).p (vs 83) X5 := hv 3 (by decide) rfl; obtain ⟨u83, y83, e83, c83⟩ := isL_one.1 (isL_isZ.2 t83); have e84 : vs 84 = .int .i64 (rfe p) := hv 4 (by decide) rfl; simp only [PA, e18, e83, e84]; replace HE : Hd (Env X5 [⟨wr.heap.size, 26, [rC p.n, rC p.d]⟩, ⟨g16, 24, [zC (rfn p)]⟩, ⟨g18, 24, [aC]⟩]) := ⟨Env.addne (e := ⟨g18, 24, [aC]⟩) HE.out ⟨_, b18, cp1 (cpz _)⟩ (fun e' he => Nat.ne_of_lt (Nat.lt_of_lt_of_le (HL0.out e' he) l18))⟩; have G18 : Hd (wr.heap.size ≤ g18) := ⟨Nat.le_trans HBW.out.size l18⟩; clear l18 b18; clear HL0 HBW e18; refine wpList_st rfl rfl rfl rfl rfl (sto_I c83 (Slot.one _) (HE.out.get 2 rfl)) ?_; have HE' : Env (putAt X5 g18 0 u83 y83) [⟨wr.heap.size, 26, [rC p.n, rC p.d]⟩, ⟨g16, 24, [zC (rfn p)]⟩, ⟨g18, 24, [zC (rfn p)]⟩] := HE.out.put1 2 rfl c83; have HB' := below_putAt (o := 0) (u := u83) (v := y83) HB.out (show wr.heap.size ≤ g18 from G18.out); generalize putAt X5 g18 0 u83 y83 = X6 at *; replace HE := Hd.mk HE'; replace HB := Hd.mk HB'; clear HE' HB'; clear hv hal hne hb; go_upto_region 13 with fail
   refine wp_region_vd 6 [86, 87, 85, 88, 89, 20] [0, 2, 3, 4] [5] 26 [.bool false, .slice none 0 0, .bool false, .slice none 0 0] [isV (.string ⟨(qpS p).toArray⟩), isP (isL [zC (rqN (qpS p)), zC (rqD (qpS p))]) (qI (rqE (qpS p))), isP (isL [zC (rqN (qpS p)), zC (rqD (qpS p))]) (qI (rqE (qpS p))), isL [zC (rqN (qpS p)), zC (rqD (qpS p))], qI (rqE (qpS p)), SP.any] (by rfl) alloc_R ?_ ?_
   ·intro i hi hA aa wx hb hs hd
    match i, hi, hA with
    | 0, _, _ => exact aL (op_mv rfl (hs 12 rfl)) | 1, _, _ => exact aL (op_call1 rfl rfl Tryz.call5 (RatParse_got (qpS p) HLN.out _ _ (hd 0 rfl))) | 2, _, _ => exact aL (op_mv rfl (hd 1 rfl)) | 3, _, _ => exact aL (op_fst rfl (hd 2 rfl)) | 4, _, _ => exact aL (op_snd rfl (hd 2 rfl)) | 5, _, h => cases h | i + 6, h, _ => omega
   intro vs X7 hb hv hal hne; have HL0 := Hd.mk (HE.out.lt); have HBW := HB; replace HB := Hd.mk (bel_then HB.out hb); replace HE := Hd.mk (HE.out.to hb); obtain ⟨g20, e20, l20, b20⟩ : ∃ g, vs 20 = .pointer (some ⟨g, 0, none⟩) ∧ _ := hal 5 rfl; have t88 : (isL [zC (rqN (qpS p)), zC (rqD (qpS p))]).p (vs 88) X7 := hv 3 (by decide) rfl; obtain ⟨u88, y88, p88, q88, e88, c88, k88⟩ := isL_two.1 t88; have e89 : vs 89 = .int .i64 (rqE (qpS p)) := hv 4 (by decide) rfl; simp only [PA, e20, e88, e89]; replace HE : Hd (Env X7 [⟨wr.heap.size, 26, [rC p.n, rC p.d]⟩, ⟨g16, 24, [zC (rfn p)]⟩, ⟨g18, 24, [zC (rfn p)]⟩, ⟨g20, 26, [aC, aC]⟩]) := ⟨Env.addne (e := ⟨g20, 26, [aC, aC]⟩) HE.out ⟨_, b20, cp2 (cpz _) (cpz _)⟩ (fun e' he => Nat.ne_of_lt (Nat.lt_of_lt_of_le (HL0.out e' he) l20))⟩; have G20 : Hd (wr.heap.size ≤ g20) := ⟨Nat.le_trans HBW.out.size l20⟩; clear l20 b20; clear HL0 HBW e20; refine wpList_st rfl rfl rfl rfl rfl (sto_R c88 k88 (HE.out.get 3 rfl)) ?_; have HE' : Env (putAt (putAt X7 g20 0 u88 y88) g20 2 p88 q88) [⟨wr.heap.size, 26, [rC p.n, rC p.d]⟩, ⟨g16, 24, [zC (rfn p)]⟩, ⟨g18, 24, [zC (rfn p)]⟩, ⟨g20, 26, [zC (rqN (qpS p)), zC (rqD (qpS p))]⟩] := HE.out.put4 3 rfl c88 k88; have HB' := below_put4 (u := u88) (v := y88) (u' := p88) (v' := q88) HB.out (show wr.heap.size ≤ g20 from G20.out); generalize putAt (putAt X7 g20 0 u88 y88) g20 2 p88 q88 = X8 at *; replace HE := Hd.mk HE'; replace HB := Hd.mk HB'; clear HE' HB'; clear hv hal hne hb; go_upto_region 14 with fail
   refine wp_region_vdn 33 [90, 91, 92, 93, 94, 95, 96, 97, 98, 99, 100, 101, 102, 103, 104, 105, 106, 107, 108, 109, 110, 111, 112, 113, 114, 115, 116, 117, 118, 119, 120, 121, 122] [0, 1, 2, 3, 4, 5, 6, 7, 8, 12, 13, 14, 15, 16, 17, 18, 19, 20, 21, 22, 31, 32] [] 51 [.bool false, .slice none 0 0] [isV (.string ⟨(qpS p).toArray⟩), isV (.string ⟨(qpS p).toArray⟩), qF, qF, qI (qpE p), qI (qpE p), qF, qF, qF, isZ (rfn p), isZ (rfn p), qT, qF, qF, qF, qI (rfe p), qI (rfe p), qF, qF, qF, qI (qpE p), qF, qF, SP.any, SP.any, isV (.tuple #[]), SP.any, SP.any, SP.any, SP.any, SP.any, qF, qF] (by rfl) alloc_whole ?_ ?_
   ·intro i hi hA aa wx hb hs hd
    match i, hi, hA with
    | 0, _, _ => exact .inl ⟨.inl rfl, op_mv rfl (hs 12 rfl)⟩ | 1, _, _ => exact .inl ⟨.inl rfl, op_mv rfl (hs 14 rfl)⟩ | 2, _, _ => exact .inl ⟨.inl rfl, ⟨_, op_neqSS rfl (hd 0 rfl) (hd 1 rfl), rfl⟩⟩ | 3, _, _ => exact .inl ⟨.inl rfl, op_mv rfl (hd 2 rfl)⟩ | 4, _, _ => exact .inl ⟨.inl ⟨rfl, hd 3 rfl⟩, op_mv rfl (hs 13 rfl)⟩ | 5, _, _ => exact .inl ⟨.inl ⟨rfl, hd 3 rfl⟩, op_mv rfl (hs 15 rfl)⟩ | 6, _, _ => exact .inl ⟨.inl ⟨rfl, hd 3 rfl⟩, ⟨_, op_neqSE rfl (hd 4 rfl) (hd 5 rfl), rfl⟩⟩ | 7, _, _ => exact .inl ⟨.inl rfl, ⟨_, op_pickF rfl (hd 3 rfl) (hd 6 rfl), rfl⟩⟩ | 8, _, _ => exact .inl ⟨.inl rfl, op_mv rfl (hd 7 rfl)⟩ | 9, _, _ => exact .inl ⟨.inl ⟨rfl, hd 8 rfl⟩, op_ldIz rfl rfl (hs 16 rfl) ((HE.out.to hb).get 1 rfl).a0⟩ | 10, _, _ => exact .inl ⟨.inl ⟨rfl, hd 8 rfl⟩, op_ldIz rfl rfl (hs 18 rfl) ((HE.out.to hb).get 2 rfl).a0⟩ | 11, _, _ => exact .inl ⟨.inl ⟨rfl, hd 8 rfl⟩, wp_b (decide_eq_true rfl) (op_call2 rfl rfl Tryz.call17 (same_zz (rfn p) (rfn p) _ _ _ (hd 9 rfl) (hd 10 rfl)))⟩ | 12, _, _ => exact .inl ⟨.inl ⟨rfl, hd 8 rfl⟩, ⟨_, op_not rfl (hd 11 rfl), rfl⟩⟩ | 13, _, _ => exact .inl ⟨.inl rfl, ⟨_, op_pickF rfl (hd 8 rfl) (hd 12 rfl), rfl⟩⟩ | 14, _, _ => exact .inl ⟨.inl rfl, op_mv rfl (hd 13 rfl)⟩ | 15, _, _ => exact .inl ⟨.inl ⟨rfl, hd 14 rfl⟩, op_mv rfl (hs 17 rfl)⟩ | 16, _, _ => exact .inl ⟨.inl ⟨rfl, hd 14 rfl⟩, op_mv rfl (hs 19 rfl)⟩ | 17, _, _ => exact .inl ⟨.inl ⟨rfl, hd 14 rfl⟩, ⟨_, op_neqSE rfl (hd 15 rfl) (hd 16 rfl), rfl⟩⟩ | 18, _, _ => exact .inl ⟨.inl rfl, ⟨_, op_pickF rfl (hd 14 rfl) (hd 17 rfl), rfl⟩⟩ | 19, _, _ => exact .inl ⟨.inl rfl, op_mv rfl (hd 18 rfl)⟩ | 20, _, _ => exact .inl ⟨.inl ⟨rfl, hd 19 rfl⟩, op_mv rfl (hs 13 rfl)⟩ | 21, _, _ => exact .inl ⟨.inl ⟨rfl, hd 19 rfl⟩, pure_b HE0.out (⟨_, op_eqlcE rfl (hd 20 rfl), rfl⟩)⟩ | 22, _, _ => exact .inl ⟨.inl ⟨rfl, hd 19 rfl⟩, op_mv rfl (hd 21 rfl)⟩ | 23, _, _ => exact .inr ⟨.inl ⟨rfl, hd 22 rfl⟩, trivial⟩ | 24, _, _ => exact .inr ⟨.inl ⟨rfl, hd 22 rfl⟩, trivial⟩ | 25, _, _ => exact .inr ⟨.inl ⟨rfl, hd 22 rfl⟩, rfl⟩ | 26, _, _ => exact .inr ⟨.inr ⟨rfl, _, _, rfl, rfl, hd 25 rfl⟩, trivial⟩ | 27, _, _ => exact .inr ⟨.inr ⟨rfl, _, _, rfl, rfl, hd 25 rfl⟩, trivial⟩ | 28, _, _ => exact .inr ⟨.inr ⟨rfl, _, _, rfl, rfl, hd 25 rfl⟩, trivial⟩ | 29, _, _ => exact .inr ⟨.inr ⟨rfl, _, _, rfl, rfl, hd 25 rfl⟩, trivial⟩ | 30, _, _ => exact .inr ⟨.inl ⟨rfl, hd 22 rfl⟩, trivial⟩ | 31, _, _ => exact .inl ⟨.inl ⟨rfl, hd 19 rfl⟩, ⟨_, op_pickF rfl (hd 22 rfl) rfl, rfl⟩⟩ | 32, _, _ => exact .inl ⟨.inl rfl, ⟨_, op_pickF rfl (hd 19 rfl) (hd 31 rfl), rfl⟩⟩ | i + 33, h, _ => omega
   intro vs X9 hb hv hal hne; replace HB := Hd.mk (bel_then HB.out hb); replace HE := Hd.mk (HE.out.to hb); have e122 : vs 122 = .bool false := hv 32 (by decide) rfl; simp only [PA, e122]; clear hv hal hne hb; go_wp2_with fail
   go_roundw
   case rel => exact ⟨k + 1, by omega, by go_num, HR.out.to HB.out, below_then HA.out HA.out.size HB.out⟩
   case measure => simp [intOf]; omega
  have hke : k = 2 := by omega
  subst hke; go_wp2_with fail
  go_ret
  exact ⟨_, rfl, HA.out, rfl⟩
theorem ExactRats_walk (x y : Raw) (w : World) (hx : x.at_ w) (hy : y.at_ w) (ht : Tab w) :
  Calls Tryz.prog 4 #[x.v, y.v] w fun e w' => e = .returned (.bool true) ∧ Below w.heap.size w w' :=
 (Rats_got ⟨x, y⟩ _ _ w (isL_one.2 ⟨_, _, rfl, rfl, rfl, hx⟩) (isL_one.2 ⟨_, _, rfl, rfl, rfl, hy⟩) ht).mono fun e w' ⟨v, h1, h2, h3⟩ => ⟨h1.trans (congrArg _ (show v = .bool true from h3)), h2⟩
end Go.Proofs.YtdfhhceboacdcaaGreatDoor
set_option linter.unusedVariables false
namespace Go.Proofs.YtdfhhceboacdcaaGreatDoor
open Go.ChangeShapes Go.WideShapes Go.ChangeAt Go.RowKit Go.Joins
theorem Tryz.cellsInt : Tryz.prog.cellsOf 24 = 2 := by kernel_rfl
theorem u32_nat {n : Int} (h : (Lit.int .u32 n).wf = true) : n.toNat < 4294967296 ∧ ((n.toNat : Nat) : Int) = n := by
 have h2 : 0 ≤ n ∧ n ≤ 4294967295 := by
  simp [Lit.wf, IntKind.min, IntKind.max, IntKind.signed, IntKind.bits] at h; omega
 omega
set_option maxRecDepth 100000 in
theorem open_Int {H : Type} {enc : TypeId × Value → H} {W : World} {base : Nat} {v : Value} {d : DataW H} {p : List MemPlace}
  (hv : Value.okWide Tryz.prog W .any base 24 v) (h : DataW.Trod enc Tryz.prog W 0 (fun _ => true) true 24 v d p) : ∃ r : Raw, v = r.v ∧ r.at_ W := by
 obtain ⟨c0, c1, y0, y1, m, rfl, rfl, rfl, hy0, hy1⟩ := open_agg2 Tryz.underlying24 (by kernel_rfl) Tryz.cellsInt hv h; obtain ⟨b, e0, rfl⟩ := DataW.trod_bool Tryz.underlying4 hy0; rcases open_ints Tryz.underlying22 Tryz.underlying46 (by kernel_rfl) hy1 with ⟨hcs, _⟩ | ⟨x, l, c, zs, hcs, _, hl, hm, hz, _, hcell, hwz⟩
 ·simp at e0 hcs; subst e0 hcs; exact ⟨⟨b, none, 0, []⟩, rfl, RN.nil _ _, (fun x hx => by cases hx), Nat.le_refl _, by show 0 ≤ _; omega⟩
 simp at e0 hcs; subst e0 hcs; unfold maxLen at hm; have hzl : zs.length = c := by simpa using hz
 have hlen : ((zs.take l).map Int.toNat).length = l := by rw [List.length_map, List.length_take]; omega
 refine ⟨⟨b, some x, c, (zs.take l).map Int.toNat⟩, by unfold Raw.v; rw [hlen], fun hn => ⟨x, rfl, fun j hj => ?_⟩, ?_, by show _ ≤ c; rw [hlen]; exact hl, hm⟩
 ·have hjl : j < l := by rwa [hlen] at hj
  rw [hcell j (by omega)]; have hw := (u32_nat (hwz _ (List.getElem_mem (show j < zs.length by omega)))).2; have e1 : zs.getD j 0 = zs[j] := by simp [show j < zs.length by omega]
  have e2 : ((zs.take l).map Int.toNat).getD j 0 = (zs[j]).toNat := by
   rw [List.getD_eq_getElem?_getD, List.getElem?_map, List.getElem?_take, if_pos hjl, List.getElem?_eq_getElem (show j < zs.length by omega)]; rfl
  rw [e1, e2, hw]
 intro y hy; obtain ⟨z, hzm, rfl⟩ := List.mem_map.1 hy; exact (u32_nat (hwz z (List.mem_of_mem_take hzm))).1
end Go.Proofs.YtdfhhceboacdcaaGreatDoor
