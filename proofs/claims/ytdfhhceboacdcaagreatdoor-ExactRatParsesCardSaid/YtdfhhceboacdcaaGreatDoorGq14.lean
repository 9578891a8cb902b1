/- Part 14 of the texts behind this claim. -/
import Derived.Test.YtdfhhceboacdcaaGreatDoorGq5
import Derived.Test.YtdfhhceboacdcaaGreatDoorGq6
import Derived.Test.YtdfhhceboacdcaaGreatDoorGq10
import Derived.Test.YtdfhhceboacdcaaGreatDoorGq12
import Derived.Test.YtdfhhceboacdcaaGreatDoorGq13
set_option linter.unusedVariables false
set_option linter.unusedSimpArgs false
namespace Go.Proofs.YtdfhhceboacdcaaGreatDoor
open Go.RowKit
structure CP where
 p : Value → Value → World → Prop
 st : ∀ u v w w', p u v w → Below w.heap.size w w' → p u v w'
 pt : ∀ u v w q x y, p u v w → w.cell? q = some x → (∀ t : Int, x ≠ .int .u32 t) → p u v (w.setCell q y)
 nb : ∀ u v w, p u v w → ∃ b A l c, u = .bool b ∧ v = .slice A l c
theorem RN.set_ {w : World} {A : Option Addr} {xs : List Nat} (h : RN w A xs) {p : Addr} {v : Value} (hp : w.cell? p = some v) (hv : ∀ x : Int, v ≠ .int .u32 x) (u : Value) : RN (w.setCell p u) A xs := fun hn => by
 obtain ⟨ad, e, hc⟩ := h hn; exact ⟨ad, e, fun j hj => (World.cell?_setCell_other w p _ u (fun e2 => hv _ (Option.some.inj (hp.symm.trans ((congrArg w.cell? e2).trans (hc j hj)))))).trans (hc j hj)⟩
def zC (z : Int) : CP where
 p u v w := ∃ A c, u = .bool (decide (z < 0)) ∧ v = .slice A (ln z.natAbs) c ∧ NN w A c z.natAbs
 st := fun u v w w' ⟨A, c, h1, h2, h3⟩ hb => ⟨A, c, h1, h2, h3.to hb⟩
 pt := fun u v w q x y ⟨A, c, h1, h2, h3⟩ hq hx => ⟨A, c, h1, h2, h3.set_ hq hx y⟩
 nb := fun u v w ⟨A, c, h1, h2, h3⟩ => ⟨_, _, _, _, h1, h2⟩
def rC (r : Raw) : CP where
 p u v w := u = .bool r.neg ∧ v = .slice r.A r.xs.length r.c ∧ r.at_ w
 st := fun u v w w' ⟨h1, h2, h3⟩ hb => ⟨h1, h2, Raw.at_to h3 hb⟩
 pt := fun u v w q x y ⟨h1, h2, h3⟩ hq hx => ⟨h1, h2, h3.1.set_ hq hx y, h3.2⟩
 nb := fun u v w ⟨h1, h2, h3⟩ => ⟨_, _, _, _, h1, h2⟩
def aC : CP where
 p u v w := ∃ b A l c, u = .bool b ∧ v = .slice A l c
 st := fun u v w w' h _ => h
 pt := fun u v w q x y h _ _ => h
 nb := fun u v w h => h
theorem cp_any {c : CP} {u v : Value} {w : World} (h : c.p u v w) : aC.p u v w := c.nb u v w h
def cellsP : List CP → List Value → World → Prop
 | [], vs, _ => vs = []
 | c :: l, vs, w => ∃ u v rest, vs = u :: v :: rest ∧ c.p u v w ∧ cellsP l rest w
theorem cellsP_st : ∀ (l : List CP) (vs : List Value) (w w' : World), cellsP l vs w → Below w.heap.size w w' → cellsP l vs w'
 | [], _, _, _, h, _ => h
 | c :: l, _, w, w', ⟨u, v, rest, e, hc, hl⟩, hb => ⟨u, v, rest, e, c.st _ _ _ _ hc hb, cellsP_st l rest w w' hl hb⟩
theorem cellsP_pt : ∀ (l : List CP) (vs : List Value) (w : World) (q : Addr) (x y : Value), cellsP l vs w → w.cell? q = some x → (∀ t : Int, x ≠ .int .u32 t) → cellsP l vs (w.setCell q y)
 | [], _, _, _, _, _, h, _, _ => h
 | c :: l, _, w, q, x, y, ⟨u, v, rest, e, hc, hl⟩, hq, hx => ⟨u, v, rest, e, c.pt _ _ _ _ _ _ hc hq hx, cellsP_pt l rest w q x y hl hq hx⟩
def isL (l : List CP) : SP := ⟨fun v w => ∃ vs : List Value, v = .agg vs.toArray ∧ cellsP l vs w, fun v w w' ⟨vs, h, hl⟩ hb => ⟨vs, h, cellsP_st l vs w w' hl hb⟩⟩
theorem isL_isZ {z : Int} {v : Value} {w : World} : (isL [zC z]).p v w ↔ (isZ z).p v w := by
 constructor
 ·rintro ⟨vs, rfl, u, x, rest, rfl, ⟨A, c, rfl, rfl, hn⟩, rfl⟩; exact ⟨A, c, rfl, hn⟩
 rintro ⟨A, c, rfl, hn⟩; exact ⟨_, rfl, _, _, _, rfl, ⟨A, c, rfl, rfl, hn⟩, rfl⟩
def HL (w : World) (g : Nat) (t : TypeId) (l : List CP) : Prop := ∃ vs, Blk w g t vs ∧ cellsP l vs w
section
variable {w w' : World} {g h : Nat} {t t' : TypeId} {l l' : List CP} {c c' d d' : CP} {u v x y : Value} {z n m : Int}
theorem HL.to (k : HL w g t l) (hb : Below w.heap.size w w') : HL w' g t l := let ⟨vs, h1, h2⟩ := k; ⟨vs, h1.to hb, cellsP_st l vs w w' h2 hb⟩
theorem HL.lt (k : HL w g t l) : g < w.heap.size := let ⟨vs, h1, h2⟩ := k; h1.lt
theorem HL.one (k : HL w g t [c]) : ∃ u v, Blk w g t [u, v] ∧ c.p u v w := by
 obtain ⟨vs, h1, u, v, rest, rfl, hc, rfl⟩ := k; exact ⟨u, v, h1, hc⟩
theorem HL.two (k : HL w g t [c, d]) : ∃ u v x y, Blk w g t [u, v, x, y] ∧ c.p u v w ∧ d.p x y w := by
 obtain ⟨vs, h1, u, v, rest, rfl, hc, x, y, rest, rfl, hd, rfl⟩ := k; exact ⟨u, v, x, y, h1, hc, hd⟩
theorem HL.mk1 (h1 : Blk w g t [u, v]) (hc : c.p u v w) : HL w g t [c] := ⟨_, h1, u, v, _, rfl, hc, rfl⟩
theorem HL.hz (k : HL w g t [zC z]) : HZ w g t z := by
 obtain ⟨u, v, h1, A, c, rfl, rfl, hn⟩ := k.one; exact ⟨A, c, h1, hn⟩
theorem HZ.hl (k : HZ w g t z) : HL w g t [zC z] := let ⟨A, c, h1, hn⟩ := k; HL.mk1 h1 ⟨A, c, rfl, rfl, hn⟩
def putAt (w : World) (g o : Nat) (u v : Value) : World := (w.setCell ⟨g, o, none⟩ u).setCell ⟨g, o + 1, none⟩ v
theorem nb_cells {o : Nat} {vs : List Value} (hb : Blk w g t vs) (hn : aC.p x y w) (h0 : vs[o]? = some x) (h1 : vs[o + 1]? = some y) :
  w.cell? ⟨g, o, none⟩ = some x ∧ (w.setCell ⟨g, o, none⟩ u).cell? ⟨g, o + 1, none⟩ = some y ∧ (∀ t : Int, x ≠ .int .u32 t) ∧ (∀ t : Int, y ≠ .int .u32 t) := by
 obtain ⟨b, A, l, c, rfl, rfl⟩ := hn; refine ⟨(hb.cell o).trans h0, ?_, by intro t; simp, by intro t; simp⟩; refine (World.cell?_setCell_other _ _ _ _ ?_).trans ((hb.cell (o + 1)).trans h1); intro e; injection e with e1 e2 e3
 omega
theorem cellsP_put {o : Nat} {vs : List Value} {vs' : List Value} (hb : Blk w g t vs) (hn : aC.p x y w) (h0 : vs[o]? = some x) (h1 : vs[o + 1]? = some y) (hl : cellsP l' vs' w) : cellsP l' vs' (putAt w g o u v) := by
 obtain ⟨k0, k1, n0, n1⟩ := nb_cells (u := u) hb hn h0 h1; exact cellsP_pt _ _ _ _ _ _ (cellsP_pt _ _ _ _ _ _ hl k0 n0) k1 n1
theorem blk_farAt {o : Nat} {vs : List Value} (hb : Blk w h t vs) (hne : h ≠ g) : Blk (putAt w g o u v) h t vs := (hb.far (p := ⟨g, o, none⟩) hne u).far (p := ⟨g, o + 1, none⟩) hne v
inductive Slot : List CP → Nat → Prop
 | one (c : CP) : Slot [c] 0
 | left (c d : CP) : Slot [c, d] 0
 | right (c d : CP) : Slot [c, d] 2
theorem Slot.at_ {o : Nat} (s : Slot l o) (k : HL w g t l) : ∃ vs x y, Blk w g t vs ∧ aC.p x y w ∧ vs[o]? = some x ∧ vs[o + 1]? = some y := by
 cases s with
 | one c => obtain ⟨u, v, hb, hc⟩ := k.one; exact ⟨_, u, v, hb, cp_any hc, rfl, rfl⟩
 | left c d => obtain ⟨u, v, x, y, hb, hc, hd⟩ := k.two; exact ⟨_, u, v, hb, cp_any hc, rfl, rfl⟩
 | right c d => obtain ⟨u, v, x, y, hb, hc, hd⟩ := k.two; exact ⟨_, x, y, hb, cp_any hd, rfl, rfl⟩
theorem HL.far {o : Nat} (k : HL w h t' l') (s : Slot l o) (b : HL w g t l) (hne : h ≠ g) : HL (putAt w g o u v) h t' l' := by
 obtain ⟨vs, x, y, hb, ha, h0, h1⟩ := s.at_ b; obtain ⟨vs', hb', hl'⟩ := k; exact ⟨vs', blk_farAt hb' hne, cellsP_put hb ha h0 h1 hl'⟩
theorem NN.putAt {o : Nat} {A : Option Addr} {cc nn : Nat} (hn : NN w A cc nn) (s : Slot l o) (k : HL w g t l) : NN (putAt w g o u v) A cc nn := by
 obtain ⟨vs, x, y, hb, ha, h0, h1⟩ := s.at_ k; obtain ⟨k0, k1, n0, n1⟩ := nb_cells (u := u) hb ha h0 h1; exact (hn.set_ k0 n0 _).set_ k1 n1 _
theorem isL.put {o : Nat} {a : Value} (hc : (isL l').p a w) (s : Slot l o) (k : HL w g t l) : (isL l').p a (putAt w g o u v) := by
 obtain ⟨vs, x, y, hb, ha, h0, h1⟩ := s.at_ k; obtain ⟨vs', e, hl⟩ := hc; exact ⟨vs', e, cellsP_put hb ha h0 h1 hl⟩
end
structure Ent where
 g : Nat
 t : TypeId
 l : List CP
def Env (w : World) : List Ent → Prop
 | [] => True
 | e :: L => HL w e.g e.t e.l ∧ (∀ e' ∈ L, e'.g ≠ e.g) ∧ Env w L
section
variable {w w' : World} {L : List Ent} {e e' : Ent} {i o : Nat} {u v : Value}
theorem Env.to : ∀ {L : List Ent}, Env w L → Below w.heap.size w w' → Env w' L
 | [], _, _ => trivial
 | e :: L, ⟨h1, h2, h3⟩, hb => ⟨h1.to hb, h2, Env.to h3 hb⟩
theorem Env.mem : ∀ {L : List Ent}, Env w L → e ∈ L → HL w e.g e.t e.l
 | e0 :: L, ⟨h1, h2, h3⟩, h => by
  rcases List.mem_cons.1 h with rfl | h
  ·exact h1
  exact Env.mem h3 h
theorem Env.get (h : Env w L) (i : Nat) (hi : L[i]? = some e) : HL w e.g e.t e.l := h.mem (List.mem_of_getElem? hi)
theorem Env.add : ∀ {L : List Ent}, Env w L → HL w e.g e.t e.l → (∀ e' ∈ L, e'.g < e.g) → Env w (L ++ [e])
 | [], _, he, _ => ⟨he, fun e' h => (by cases h), trivial⟩
 | e0 :: L, ⟨h1, h2, h3⟩, he, hl => ⟨h1, fun e' h => by
   rcases List.mem_append.1 h with h | h
   ·exact h2 e' h
   rcases List.mem_singleton.1 h with rfl
   have := hl e0 (List.mem_cons_self ..)
   omega, Env.add h3 he (fun e' h => hl e' (List.mem_cons_of_mem _ h))⟩
theorem Env.lt (h : Env w L) : ∀ e ∈ L, e.g < w.heap.size := fun e he => (h.mem he).lt
theorem Env.new {g : Nat} {t : TypeId} {l : List CP} (h : Env w L) (hb : Below w.heap.size w w') (hg : w.heap.size ≤ g) (he : HL w' g t l) : Env w' (L ++ [⟨g, t, l⟩]) :=
 Env.add (e := ⟨g, t, l⟩) (h.to hb) he (fun e' h' => Nat.lt_of_lt_of_le (h.lt e' h') hg)
theorem Env.far {g : Nat} {t : TypeId} {l : List CP} : ∀ {L : List Ent}, Env w L → (s : Slot l o) → (k : HL w g t l) → (∀ e' ∈ L, e'.g ≠ g) → Env (putAt w g o u v) L
 | [], _, _, _, _ => trivial
 | e :: L, ⟨h1, h2, h3⟩, s, k, hne => ⟨h1.far s k (hne e (List.mem_cons_self ..)), h2, Env.far h3 s k (fun e' h => hne e' (List.mem_cons_of_mem _ h))⟩
theorem Env.put : ∀ {L : List Ent} (i : Nat) {g : Nat} {t : TypeId} {l l' : List CP}, Env w L → L[i]? = some ⟨g, t, l⟩ → Slot l o → HL (putAt w g o u v) g t l' → Env (putAt w g o u v) (L.set i ⟨g, t, l'⟩)
 | e :: L, 0, g, t, l, l', ⟨h1, h2, h3⟩, hi, s, hk => by
  obtain rfl : e = ⟨g, t, l⟩ := by simpa using hi
  exact ⟨hk, h2, Env.far h3 s h1 h2⟩
 | e :: L, i + 1, g, t, l, l', ⟨h1, h2, h3⟩, hi, s, hk => by
  have hi' : L[i]? = some ⟨g, t, l⟩ := by simpa using hi
  have hm := List.mem_of_getElem? hi'; have k := h3.get i hi'; refine ⟨h1.far s k (Ne.symm (h2 _ hm)), ?_, Env.put i h3 hi' s hk⟩; intro e' he'; rcases List.mem_or_eq_of_mem_set he' with h | rfl
  ·exact h2 e' h
  exact (show g ≠ e.g from h2 ⟨g, t, l⟩ hm)
end
def DepsD (ds AL : List Nat) (V : Nat → Value → World → Prop) (i : Nat) (a : Act) (w : World) : Prop :=
 ∀ j, (decide (j < i) && !AL.contains j) = true → V j (a.eval (.tmp (ds.getD j 0))) w
theorem wp_region_vd {id : Nat} {l : List Oper} {a0 : Act} {w0 : World} {Q : Exit → Act → World → Prop} (n1 : Nat) (ds E AL : List Nat) (T : TypeId) (z : List Value) (Vs : List SP)
  (hD : VarG l n1 ds E AL T a0.tmps.size = true)
  (hz : ∀ w : World, (Instr.alloc T true (.tuple #[])).run Tryz.prog w = .ok (.pointer (some ⟨w.heap.size, 0, none⟩)) (w.alloc (.cells z.toArray T)))
  (hop : ∀ i, i < n1 → AL.contains i = false → ∀ a w, Below w0.heap.size w0 w → (∀ t, ds.contains t = false → a.eval (.tmp t) = a0.eval (.tmp t)) → DepsD ds AL (vp Vs) i a w →
   match l[i]? with | none => True | some o => (WantG l ds o a true ∧ if E.contains i then ∃ v, (∀ w, (execOp a.eval o).run Tryz.prog w = .ok (.value v) w) ∧ vp Vs i v w else o.wp Tryz.prog a w (Post a w (ds.getD i 0) (vp Vs i)) Q) ∨ (WantG l ds o a false ∧ vp Vs i undef w))
  (hend : ∀ (vs : Nat → Value) (w : World), Below w0.heap.size w0 w → (∀ i, i < n1 → AL.contains i = false → vp Vs i (vs (ds.getD i 0)) w) →
   (∀ i, AL.contains i = true → ∃ g, vs (ds.getD i 0) = .pointer (some ⟨g, 0, none⟩) ∧ w0.heap.size ≤ g ∧ Blk w g T z) → (∀ i j, AL.contains i = true → AL.contains j = true → i ≠ j → vs (ds.getD i 0) ≠ vs (ds.getD j 0)) → wpList Tryz.prog l.toArray Q (l.drop n1) (putAll a0 ds vs) w) :
  (Code.region id l.toArray false).wp Tryz.prog Q a0 w0 := by
 unfold VarG at hD; simp only [Bool.and_eq_true, decide_eq_true_eq, List.all_eq_true, List.mem_range] at hD; obtain ⟨⟨⟨⟨⟨⟨hdl, hnl⟩, hdt⟩, hnd⟩, hEE⟩, hAA⟩, hops⟩ := hD
 have hop1 : ∀ i, i < n1 → ∃ o, l[i]? = some o ∧ o.dst = some (ds.getD i 0) ∧ (AL.contains i = true → o.guard = none) ∧ (AL.contains i = true → o.op = .alloc T) := by
  intro i hi; have h := hops i hi
  cases ho : l[i]? with
  | none => rw [ho] at h; cases h
  | some o =>
   rw [ho] at h; simp only [Bool.and_eq_true, decide_eq_true_eq, Bool.or_eq_true, Bool.not_eq_true', Option.isNone_iff_eq_none] at h; refine ⟨o, rfl, h.1.1, fun hA => h.1.2.elim (fun h3 => by rw [hA] at h3; cases h3) (fun h3 => h3), fun hA => ?_⟩; rcases h.2 with h2 | h2
   ·rw [hA] at h2; cases h2
   revert h2
   cases o.op <;> simp
 have hdi : ∀ i, i < n1 → ds.getD i 0 < a0.tmps.size := by
  intro i hi
  have : ds.getD i 0 ∈ ds := by
   rw [List.getD_eq_getElem?_getD, List.getElem?_eq_getElem (by omega)]; exact List.getElem_mem _
  exact hdt _ this
 let V : Nat → Value → World → Prop := vp Vs
 have hV : ∀ i v w w', V i v w → Below w.heap.size w w' → V i v w' := fun i v w w' h hb => (Vs.getD i SP.any).st v w w' h hb
 let F : Nat → Value → World → Prop := fun i v w => if AL.contains i then ∃ g, v = .pointer (some ⟨g, 0, none⟩) ∧ w0.heap.size ≤ g ∧ Blk w g T z else V i v w
 have hFs : ∀ i v w w', F i v w → Below w.heap.size w w' → F i v w' := by
  intro i v w w' h hb; show if _ then _ else _
  have h' : if _ then _ else _ := h
  split at h'
  ·next hA =>
   rw [if_pos hA]; obtain ⟨g, h1, h2, h3⟩ := h'; exact ⟨g, h1, h2, h3.to hb⟩
  next hA => rw [if_neg hA]; exact hV _ _ _ _ h' hb
 let I : Nat → Act → World → Prop := fun k a w => Below w0.heap.size w0 w ∧ a.defers = a0.defers ∧ a.tmps.size = a0.tmps.size ∧ (∀ t, t ∉ ds → a0.tmps[t]? = a.tmps[t]?) ∧
  (∀ i, i < n1 → i < k → F i (a.eval (.tmp (ds.getD i 0))) w) ∧
  (∀ i j, AL.contains i = true → AL.contains j = true → i ≠ j → i < k → j < k → a.eval (.tmp (ds.getD i 0)) ≠ a.eval (.tmp (ds.getD j 0)))
 have hAlt : ∀ i, AL.contains i = true → i < n1 := fun i h => hAA i (by simpa using h)
 have key : ∀ a w i v w', I i a w → i < n1 → Below w.heap.size w w' → F i v w' → (AL.contains i = true → ∀ j, AL.contains j = true → i ≠ j → j < i → v ≠ a.eval (.tmp (ds.getD j 0))) → I (i + 1) (a.put (some (ds.getD i 0)) v) w' := by
  intro a w i v w' ⟨hb, hdf, hts, hot, hf, hne⟩ hi hb' hv hd; refine ⟨below_then hb hb.size hb', hdf, by simp [Act.put, hts], fun t ht => ?_, fun j hj hL => ?_, fun j k hj hk hjk hLj hLk => ?_⟩
  ·have : ds.getD i 0 ≠ t := fun e => ht (by rw [← e, List.getD_eq_getElem?_getD, List.getElem?_eq_getElem (by omega)]; exact List.getElem_mem _)
   show _ = (a.tmps.setIfInBounds _ _)[t]?; rw [Array.getElem?_setIfInBounds_ne this]; exact hot t ht
  ·by_cases hij : j = i
   ·subst hij; rw [eval_put_same (by rw [hts]; exact hdi _ hi)]; exact hv
   rw [eval_put_other (nodup_ne hnd (by omega) (by omega) (Ne.symm hij))]; exact hFs _ _ _ _ (hf j hj (by omega)) hb'
  have hjn := hAlt j hj; have hkn := hAlt k hk; by_cases hji : j = i
  ·subst hji; rw [eval_put_same (by rw [hts]; exact hdi _ hi), eval_put_other (nodup_ne hnd (by omega) (by omega) hjk)]; exact hd hj k hk hjk (by omega)
  by_cases hki : k = i
  ·subst hki; rw [eval_put_same (by rw [hts]; exact hdi _ hi), eval_put_other (nodup_ne hnd (by omega) (by omega) (Ne.symm hji))]; exact Ne.symm (hd hk j hj (Ne.symm hjk) (by omega))
  rw [eval_put_other (nodup_ne hnd (by omega) (by omega) (Ne.symm hji)), eval_put_other (nodup_ne hnd (by omega) (by omega) (Ne.symm hki))]; exact hne j k hj hk hjk (by omega) (by omega)
 have main : ∀ m k, m + k = n1 → ∀ a w, I k a w → wpList Tryz.prog l.toArray Q (l.drop k) a w := by
  intro m
  induction m with
  | zero =>
   intro k hk a w ⟨hb, hdf, hts, hot, hf, hne⟩; have hk1 : k = n1 := by omega
   subst hk1; have he := putAll_eq (a := a) ds a0 hdf.symm hts.symm (fun d hd => by rw [hts]; exact hdt d hd) hot; rw [← he]; refine hend (fun t => a.eval (.tmp t)) w hb (fun i hi hA => ?_) (fun i hA => ?_) (fun i j hi hj hij => hne i j hi hj hij (hAlt i hi) (hAlt j hj))
   ·have h3 : if AL.contains i then _ else _ := hf i hi hi
    rw [if_neg (by rw [hA]; simp)] at h3; exact h3
   have h3 : if AL.contains i then _ else _ := hf i (hAlt i hA) (hAlt i hA)
   rw [if_pos hA] at h3; exact h3
  | succ m ih =>
   intro i hk a w hI; have hi : i < n1 := by omega
   obtain ⟨o, ho, hdst, hg, hal⟩ := hop1 i hi
   have hcons : l.drop i = o :: l.drop (i + 1) := by
    have hlt : i < l.length := by omega
    rw [List.getElem?_eq_getElem hlt] at ho; rw [← Option.some.inj ho]; exact (List.getElem_cons_drop (h := hlt)).symm
   have next : ∀ a w, I (i + 1) a w → wpList Tryz.prog l.toArray Q (l.drop (i + 1)) a w := ih (i + 1) (by omega); rw [hcons]; unfold wpList; by_cases hA : AL.contains i = true
   ·rw [if_pos (by simp [Region.wanted, hg hA])]; refine .inl ?_; unfold Oper.wp execOp; simp only [hal hA, Sem.run_bind, hz, Result.andThen_ok, Sem.run_pure, Oper.upon, hdst]; refine next _ _ (key a w i _ _ hI hi (below_alloc (Below.refl _ _) _) ?_ ?_)
    ·show if _ then _ else _
     rw [if_pos hA]; exact ⟨_, rfl, hI.1.size, heap_alloc_new _ _⟩
    intro _ j hj hij hL; have h3 : if AL.contains j then _ else _ := hI.2.2.2.2.1 j (hAlt j hj) hL
    rw [if_pos hj] at h3; obtain ⟨g, hg1, _, hg2⟩ := h3; rw [hg1]; intro he; have := hg2.lt; injection he with he
    injection he with he
    injection he with he
    omega
   have hA' : AL.contains i = false := by simpa using hA
   have hI2 := hI; obtain ⟨hb, hdf, hts, hot, hf, hne⟩ := hI2
   have h3 := hop i hi hA' a w hb (fun t ht => by
    have := hot t (by simpa using ht); show a.tmps.getD t undef = a0.tmps.getD t undef
    simp only [Array.getD_eq_getD_getElem?, this]) (fun j hj => by
    simp only [Bool.and_eq_true, decide_eq_true_eq, Bool.not_eq_true'] at hj; have h1 : if AL.contains j then _ else _ := hf j (by omega) hj.1
    rw [if_neg (by rw [hj.2]; simp)] at h1
    exact h1)
   rw [ho] at h3; simp only at h3; rcases h3 with ⟨hw, h3⟩ | ⟨hw, hv⟩
   ·rw [if_pos hw.wanted]; refine .inl ?_; by_cases hE : E.contains i = true
    ·rw [if_pos hE] at h3; obtain ⟨v, hy, hv⟩ := h3; unfold Oper.wp; rw [hy]; show wpList _ _ _ _ (a.put o.dst v) w; rw [hdst]; exact next _ _ (key a w i v w hI hi (Below.refl _ _) (by show if _ then _ else _; rw [if_neg hA]; exact hv) (fun h => absurd h hA))
    rw [if_neg hE] at h3; refine Oper.wp_mono (fun a' w' h => ?_) h3; obtain ⟨v, rfl, hb', hv⟩ := h; exact next _ _ (key a w i v w' hI hi hb' (by show if _ then _ else _; rw [if_neg hA]; exact hv) (fun h => absurd h hA))
   rw [if_neg (by rw [hw.wanted]; simp), hdst]; exact next _ _ (key a w i undef w hI hi (Below.refl _ _) (by show if _ then _ else _; rw [if_neg hA]; exact hv) (fun h => absurd h hA))
 refine wp_region_lit ?_; have h0 := main n1 0 (by omega) a0 w0 ⟨Below.refl _ _, rfl, rfl, fun _ _ => rfl, fun i _ h => absurd h (by omega), fun i j _ _ _ h _ => absurd h (by omega)⟩; rwa [List.drop_zero] at h0
section
variable {Q : Exit → Act → World → Prop} {o : Oper} {a : Act} {d : Nat} {x y z : Operand} {ty : TypeId} {k : Int} {b : Bool} {v v' : Value}
theorem op_neq0 (ho : o.op = .binOp .neq 3 x (.const (.int .i64 0)) ty) (hx : a.eval x = .int .i64 k) (w : World) : (execOp a.eval o).run Tryz.prog w = .ok (.value (.bool (!decide (k = 0)))) w := by
 unfold execOp; have hc : a.eval (.const (.int .i64 0)) = .int .i64 0 := rfl; simp only [ho, hx, hc]; simp [go_sem]; rfl
theorem op_pickT (ho : o.op = .pick x y z) (hx : a.eval x = .bool true) (hy : a.eval y = v) (w : World) : (execOp a.eval o).run Tryz.prog w = .ok (.value v) w := by
 unfold execOp; simp only [ho, hx, hy]; simp [go_sem]
theorem op_pickF (ho : o.op = .pick x y z) (hx : a.eval x = .bool false) (hz : a.eval z = v) (w : World) : (execOp a.eval o).run Tryz.prog w = .ok (.value v) w := by
 unfold execOp; simp only [ho, hx, hz]; simp [go_sem]
theorem op_not (ho : o.op = .unOp .not 4 x) (hx : a.eval x = .bool b) (w : World) : (execOp a.eval o).run Tryz.prog w = .ok (.value (.bool (!b))) w := by
 unfold execOp; simp only [ho, hx]; simp [go_sem]
end
def CAt (w : World) (g o : Nat) (c : CP) : Prop := ∃ u v, w.cell? ⟨g, o, none⟩ = some u ∧ w.cell? ⟨g, o + 1, none⟩ = some v ∧ c.p u v w
section
variable {w w' : World} {g o : Nat} {t : TypeId} {c d : CP} {l : List CP} {L : List Ent} {e : Ent}
theorem CAt.to (h : CAt w g o c) (hb : Below w.heap.size w w') : CAt w' g o c := by
 obtain ⟨u, v, h1, h2, h3⟩ := h; exact ⟨u, v, (hb.cell (World.block_lt_of_cell? w _ h1)).trans h1, (hb.cell (World.block_lt_of_cell? w _ h2)).trans h2, c.st _ _ _ _ h3 hb⟩
theorem HL.a0 (k : HL w g t (c :: l)) : CAt w g 0 c := by
 obtain ⟨vs, hb, u, v, rest, rfl, hc, _⟩ := k; exact ⟨u, v, hb.cell 0, hb.cell 1, hc⟩
theorem HL.a2 (k : HL w g t (c :: d :: l)) : CAt w g 2 d := by
 obtain ⟨vs, hb, u, v, rest, rfl, hc, x, y, rest, rfl, hd, _⟩ := k; exact ⟨x, y, hb.cell 2, hb.cell 3, hd⟩
theorem isL_one {v : Value} : (isL [c]).p v w ↔ ∃ x y, v = .agg #[x, y] ∧ c.p x y w := by
 constructor
 ·rintro ⟨vs, rfl, u, x, rest, rfl, hc, rfl⟩; exact ⟨u, x, rfl, hc⟩
 rintro ⟨x, y, rfl, hc⟩; exact ⟨_, rfl, _, _, _, rfl, hc, rfl⟩
theorem isL_two {v : Value} : (isL [c, d]).p v w ↔ ∃ x y x' y', v = .agg #[x, y, x', y'] ∧ c.p x y w ∧ d.p x' y' w := by
 constructor
 ·rintro ⟨vs, rfl, u, x, rest, rfl, hc, x', y', rest, rfl, hd, rfl⟩; exact ⟨u, x, x', y', rfl, hc, hd⟩
 rintro ⟨x, y, x', y', rfl, hc, hd⟩; exact ⟨_, rfl, _, _, _, rfl, hc, _, _, _, rfl, hd, rfl⟩
end
section
variable {Q : Exit → Act → World → Prop} {o : Oper} {a : Act} {w : World} {d : Nat} {z : Int} {g off : Nat} {x y : Operand} {c c' : CP} {l : List CP}
theorem ld_I {u v : Value} (h0 : w.cell? ⟨g, off, none⟩ = some u) (h1 : w.cell? ⟨g, off + 1, none⟩ = some v) : (Instr.loadAt 24 (.pointer (some ⟨g, off, none⟩))).run Tryz.prog w = .ok (.agg #[u, v]) w := by
 simp [go_sem, h0, h1]
theorem op_ldI (ho : o.op = .load 24 x) (hd : o.dst = some d) (hx : a.eval x = .pointer (some ⟨g, off, none⟩)) (hc : CAt w g off c) : o.wp Tryz.prog a w (Post a w d (isL [c]).p) Q :=
 let ⟨u, v, h0, h1, h2⟩ := hc; op_load ho hd hx (ld_I h0 h1) (isL_one.2 ⟨u, v, rfl, h2⟩)
theorem op_ldIz (ho : o.op = .load 24 x) (hd : o.dst = some d) (hx : a.eval x = .pointer (some ⟨g, off, none⟩)) (hc : CAt w g off (zC z)) : o.wp Tryz.prog a w (Post a w d (isZ z).p) Q :=
 let ⟨u, v, h0, h1, A, c, e1, e2, h3⟩ := hc; op_load ho hd hx (ld_I h0 h1) ⟨A, c, by rw [e1, e2], h3⟩
theorem ldn_w {v : Value} (h : w.cell? ⟨g, off, none⟩ = some v) : (Instr.loadAt 22 (.pointer (some ⟨g, off, none⟩))).run Tryz.prog w = .ok v w := by
 simp [go_sem, h]
theorem op_ldnw (ho : o.op = .load 22 x) (hd : o.dst = some d) (hx : a.eval x = .pointer (some ⟨g, off + 1, none⟩)) (hc : CAt w g off (zC z)) : o.wp Tryz.prog a w (Post a w d (isN z.natAbs).p) Q :=
 let ⟨u, v, h0, h1, A, c, e1, e2, h3⟩ := hc; op_load ho hd hx (ldn_w h1) ⟨A, c, e2, h3⟩
theorem ldb {v : Value} (h : w.cell? ⟨g, off, none⟩ = some v) : (Instr.loadAt 4 (.pointer (some ⟨g, off, none⟩))).run Tryz.prog w = .ok v w := by
 simp [go_sem, h]
theorem op_ldb (ho : o.op = .load 4 x) (hd : o.dst = some d) (hx : a.eval x = .pointer (some ⟨g, off, none⟩)) (hc : CAt w g off (zC z)) : o.wp Tryz.prog a w (Post a w d (isV (.bool (decide (z < 0)))).p) Q :=
 let ⟨u, v, h0, h1, A, c, e1, e2, h3⟩ := hc; op_load ho hd hx (ldb h0) e1
theorem op_faI0 (ho : o.op = .fieldAddr 24 x 0) (hx : a.eval x = .pointer (some ⟨g, off, none⟩)) (w : World) : (execOp a.eval o).run Tryz.prog w = .ok (.value (.pointer (some ⟨g, off + 0, none⟩))) w := by
 unfold execOp; simp only [ho, hx]; simp [go_sem]
theorem op_faI1 (ho : o.op = .fieldAddr 24 x 1) (hx : a.eval x = .pointer (some ⟨g, off, none⟩)) (w : World) : (execOp a.eval o).run Tryz.prog w = .ok (.value (.pointer (some ⟨g, off + 1, none⟩))) w := by
 unfold execOp; simp only [ho, hx]; simp [go_sem]
theorem op_faR0 (ho : o.op = .fieldAddr 26 x 0) (hx : a.eval x = .pointer (some ⟨g, off, none⟩)) (w : World) : (execOp a.eval o).run Tryz.prog w = .ok (.value (.pointer (some ⟨g, off + 0, none⟩))) w := by
 unfold execOp; simp only [ho, hx]; simp [go_sem]
theorem op_faR1 (ho : o.op = .fieldAddr 26 x 1) (hx : a.eval x = .pointer (some ⟨g, off, none⟩)) (w : World) : (execOp a.eval o).run Tryz.prog w = .ok (.value (.pointer (some ⟨g, off + 2, none⟩))) w := by
 unfold execOp; simp only [ho, hx]; simp [go_sem]
theorem op_bdR {y0 y1 : Operand} (ho : o.op = .build 26 #[(0, y0), (1, y1)]) (h0 : (isL [c]).p (a.eval y0) w) (h1 : (isL [c']).p (a.eval y1) w) : ∃ v, (∀ w, (execOp a.eval o).run Tryz.prog w = .ok (.value v) w) ∧ (isL [c, c']).p v w := by
 obtain ⟨u, v, e0, k0⟩ := isL_one.1 h0; obtain ⟨u', v', e1, k1⟩ := isL_one.1 h1; refine ⟨.agg #[u, v, u', v'], fun w => ?_, isL_two.2 ⟨u, v, u', v', rfl, k0, k1⟩⟩; generalize a.eval = ev at e0 e1 ⊢; unfold execOp; simp only [ho]; simp [go_sem, e0, e1]
end
section
variable {w W : World} {t1 t2 t3 t4 : TypeId} {l1 l2 l3 l4 : List CP} {v1 v2 v3 v4 : List Value}
theorem hl_new (h : cellsP l1 v1 w) : HL (w.alloc (.cells v1.toArray t1)) w.heap.size t1 l1 := ⟨v1, heap_alloc_new _ _, cellsP_st _ _ _ _ h (below_alloc (Below.refl _ _) _)⟩
theorem env_one (h : cellsP l1 v1 w) (e : W = w.alloc (.cells v1.toArray t1)) : Env W [⟨w.heap.size, t1, l1⟩] ∧ Below w.heap.size w W := by
 subst e; exact ⟨⟨hl_new h, (fun e' h => by cases h), trivial⟩, below_alloc (Below.refl _ _) _⟩
theorem env_more {L : List Ent} (k : Env w L) (h : cellsP l1 v1 w) : Env (w.alloc (.cells v1.toArray t1)) (L ++ [⟨w.heap.size, t1, l1⟩]) :=
 k.new (below_alloc (Below.refl _ _) _) (Nat.le_refl _) (hl_new h)
theorem env_two (h1 : cellsP l1 v1 w) (h2 : cellsP l2 v2 w) (e : W = (w.alloc (.cells v1.toArray t1)).alloc (.cells v2.toArray t2)) :
  Env W [⟨w.heap.size, t1, l1⟩, ⟨w.heap.size + 1, t2, l2⟩] ∧ Below w.heap.size w W := by
 subst e; have a1 := env_one h1 (t1 := t1) rfl; have a2 := env_more (t1 := t2) a1.1 (cellsP_st _ _ _ _ h2 a1.2); rw [show (w.alloc (.cells v1.toArray t1)).heap.size = w.heap.size + 1 by simp] at a2; exact ⟨a2, below_alloc a1.2 _⟩
theorem cp2 {c d : CP} {x y x' y' : Value} {w : World} (h : c.p x y w) (h' : d.p x' y' w) : cellsP [c, d] [x, y, x', y'] w := ⟨x, y, _, rfl, h, x', y', _, rfl, h', rfl⟩
end
theorem ln_one_ : ln 1 = 1 := by
 have h1 := ln_word (d := 1) (by omega); have h2 : 0 < ln 1 := ln_pos.2 (by omega); omega
theorem half_digit (n k : Nat) : (dig n).getD k 0 / 2 + (dig n).getD (k + 1) 0 % 2 * 2147483648 = n / 2 / B ^ k % B := by
 rw [dig_getD, dig_getD, Nat.div_div_eq_div_mul n, Nat.mul_comm 2 (B ^ k), ← Nat.div_div_eq_div_mul n, Nat.pow_succ, ← Nat.div_div_eq_div_mul n]; generalize n / B ^ k = m; show m % 4294967296 / 2 + m / 4294967296 % 4294967296 % 2 * 2147483648 = m / 2 % 4294967296; omega
theorem u32_or_sum {a t : Nat} (ha : a < 2147483648) (ht : t < 2) : bits .or .u32 (a : Int) ((t * 2147483648 : Nat) : Int) = ((a + t * 2147483648 : Nat) : Int) := by
 rw [u32_or_nat _ _ (by omega) (by omega)]; congr 1
 have := Nat.two_pow_add_eq_or_of_lt (i := 31) ha t; rw [Nat.or_comm, ← show 2 ^ 31 * t = t * 2147483648 from Nat.mul_comm _ _, ← this]; omega
theorem getD_set_eq (ds : List Nat) (k x : Nat) (h : k < ds.length) : (ds.set k x).getD k 0 = x := by simp [h]
set_option maxHeartbeats 1000000 in
set_option maxRecDepth 100000 in
theorem rhalf_calls (A1 : Option Addr) (c1 n : Nat) (w : World) (h1 : NN w A1 c1 n) (l1 : ln n ≤ 1073741824) :
  Calls Tryz.prog 85 #[.slice A1 (ln n) c1] w (RetN (n / 2) w) := by
 have HX := Hd.mk h1; clear h1; have hmk := fun W => make_words 59 Tryz.underlying59 (ln n : Int) (ln n) (by omega) (by omega) W
 go_enter Tryz.func85, Tryz.ntmps85
 go_wp2
 clear hmk; go_loopw [10] (fun s10 wr => ∃ (k : Nat) (ds : List Nat), k ≤ ln n ∧ s10 = .int .i64 k ∧ ds.length = k ∧ Dg ds ∧ val ds = n / 2 % B ^ k ∧ Blk wr w.heap.size 46 (cells (ds ++ List.replicate (ln n - k) 0)) ∧ Below w.heap.size w wr) (fun s _ => ln n - (intOf s).toNat)
 case atStart => exact ⟨0, [], Nat.zero_le _, rfl, rfl, (fun x hx => by cases hx), by simp [val, Nat.mod_one], heap_alloc_new w _, below_alloc (Below.refl _ _) _⟩
 case round =>
  obtain ⟨k, ds, hk, rfl, hdl, hdd, hval, hblk, hbel⟩ := hrel; have HV := Hd.mk hval; have HK := Hd.mk hblk; have HL := Hd.mk hdl; have HB := Hd.mk hbel; have HDD := Hd.mk hdd; clear hval hblk hdl hbel hdd; by_cases hkl : k < ln n
  ·obtain ⟨a1, rfl, hcell1⟩ := (HX.out.to HB.out).at_ hkl; obtain ⟨x, hx⟩ : ∃ x, x = (dig n).getD k 0 := ⟨_, rfl⟩; have hx1 : x < 4294967296 := by rw [hx]; exact dg_get (dg_dig _) k
   rw [← hx] at hcell1; obtain ⟨y, hy⟩ : ∃ y, y = (dig n).getD (k + 1) 0 := ⟨_, rfl⟩; have hy1 : y < 4294967296 := by rw [hy]; exact dg_get (dg_dig _) _
   have hck := HK.out.at_ (i := k) (by rw [List.length_append, HL.out, List.length_replicate]; omega); have hfz := HK.out.frozen k; have hsd := half_digit n k; rw [← hx, ← hy] at hsd; obtain ⟨x2, hx2⟩ : ∃ x2, x2 = x / 2 := ⟨_, rfl⟩; have hx2l : x2 < 2147483648 := by omega
   have hxe : (x : Int) / 2 = (x2 : Int) := by omega
   rw [← hx2] at hsd; obtain ⟨t, ht⟩ : ∃ t, t = y % 2 := ⟨_, rfl⟩; have htl : t < 2 := by omega
   rw [← ht] at hsd; obtain ⟨d, hd⟩ : ∃ d, d = x2 + t * 2147483648 := ⟨_, rfl⟩; have hor := u32_or_sum hx2l htl; rw [← hd] at hsd hor; obtain ⟨tt, htt⟩ : ∃ tt, tt = t * 2147483648 := ⟨_, rfl⟩; have hsh : (y : Int) * 2147483648 % 4294967296 = (tt : Int) := by rw [htt, ht]; omega
   rw [← htt] at hor; have hdB : d < B := by rw [hsd]; exact Nat.mod_lt _ (by decide)
   have hput := HK.out.put k x2
   have hset : (ds ++ List.replicate (ln n - k) 0).set k d = (ds ++ [d]) ++ List.replicate (ln n - (k + 1)) 0 := by
    have := set_next ds (ln n - k) d (by omega); rw [HL.out] at this; rw [this, Nat.sub_add_eq]
   have HS := Hd.mk hset
   have hnew : val (ds ++ [d]) = n / 2 % B ^ (k + 1) := by
    rw [val_snoc, HL.out, HV.out, Nat.mod_pow_succ, hsd]
   have HN := Hd.mk hnew; have HP := Hd.mk hput; have HY := Hd.mk hy.symm; by_cases hk1 : k + 1 < ln n
   ·obtain ⟨a2, ha2, hcell2⟩ := (HX.out.to HB.out).at_ hk1; cases ha2
    rw [← hy] at hcell2; simp only [Addr.add_succ'] at hcell2; have hk1' : (k : Int) + 1 < (ln n : Int) := by omega
    clear hx hy hx2 hd hsd hput hset hnew ht htt; go_wp2_with fail
    refine wp_still_tail 12 (by kernel_rfl) (by kernel_rfl) (fun w2 hw2 => ?_); simp only [List.take_succ_cons, List.take_zero, List.drop_succ_cons, List.drop_zero]; have HP3 : Hd (Blk w2 w.heap.size 46 (cells ((ds ++ List.replicate (ln n - k) 0).set k x2))) := ⟨by rw [hw2]; exact HP.out⟩; have HB3 : Hd (Below w.heap.size w w2) := ⟨by rw [hw2]; exact below_drew (below_set HB.out (Nat.le_refl _) _)⟩; have k0 := HP3.out.at_ (i := k) (by rw [List.length_set, List.length_append, HL.out, List.length_replicate]; omega); rw [getD_set_eq _ _ _ (by rw [List.length_append, HL.out, List.length_replicate]; omega)] at k0
    have k1 : w2.cell? (a1.add (k + 1)) = some (.int .u32 (y : Int)) := by
     obtain ⟨a3, ha3, hc3⟩ := (HX.out.to HB3.out).at_ hk1; cases ha3
     rw [hc3, HY.out]
    simp only [Addr.add_succ'] at k1; have f0 := HP3.out.frozen k
    have HP4 : Hd (Blk (w2.setCell ⟨w.heap.size, k, none⟩ (.int .u32 ((d : Nat) : Int))) w.heap.size 46 (cells ((ds ++ [d]) ++ List.replicate (ln n - (k + 1)) 0))) := ⟨by
     have := HP3.out.put k d; rw [List.set_set, HS.out] at this
     exact this⟩
    clear hw2 hck hfz hcell1 hcell2; have e9 : IntKind.i64.wrap ((k : Int) + 1) = (k : Int) + 1 := IntWalk.i64_in _ (by omega); have e10 : (0 : Int) ≤ (k : Int) + 1 := by omega
    have e11 : ((k : Int) + 1).toNat = k + 1 := by omega
    repeat (first | still_step)
    refine wpStill_nil ?_; clear e9 e10 e11; go_wp2_with fail
    go_roundw
    case rel => exact ⟨k + 1, ds ++ [d], by omega, by go_num, by rw [List.length_append, HL.out]; rfl, dg_append HDD.out (dg_one hdB), HN.out, HP4.out, below_set HB3.out (Nat.le_refl _) _⟩
    case measure => simp [intOf]; omega
   have hk1' : ¬ (k : Int) + 1 < (ln n : Int) := by omega
   have hxd : x2 = d := by
    have : y = 0 := by rw [hy]; exact getD_zero_of_le (by rw [dig_length]; omega)
    rw [hd, ht, this]; omega
   have HP5 := HP.out; rw [hxd, HS.out] at HP5; have HP6 := Hd.mk HP5; have HN6 := Hd.mk HN.out; clear hx hy hd hsd hput hset hnew ht htt HP HP5 hxe hor hsh; rw [hxd] at hx2; have hxe : (x : Int) / 2 = (d : Int) := by omega
   clear hx2 hxd; go_wp2_with fail
   go_roundw
   case rel => exact ⟨k + 1, ds ++ [d], by omega, by go_num, by rw [List.length_append, HL.out]; rfl, dg_append HDD.out (dg_one hdB), HN6.out, HP6.out, below_set HB.out (Nat.le_refl _) _⟩
   case measure => simp [intOf]; omega
  have hke : k = ln n := by omega
  subst hke
  have hv2 : val ds = n / 2 := by
   rw [HV.out, Nat.mod_eq_of_lt (Nat.lt_of_le_of_lt (Nat.div_le_self _ _) (lt_pow_ln n))]
  have hblk : Blk wr w.heap.size 46 (cells ds) := by
   have := HK.out; rwa [Nat.sub_self, List.replicate_zero, List.append_nil] at this
  have hc := trim_calls (some ⟨w.heap.size, 0, none⟩) (ln n) ds _ hblk.reads HDD.out (by have := HL.out; omega) (by omega); have hrn := hblk.reads.of_take HDD.out; rw [HL.out, hv2] at hc; rw [hv2] at hrn; have hfin : ln (n / 2) ≤ ln n := ln_mono (Nat.div_le_self _ _); have HC := Hd.mk hc; have HRN := Hd.mk hrn; clear hv2 hc hrn hblk; go_wp2_with fail
  refine HC.out.mono ?_; rintro e w' ⟨rfl, rfl⟩; go_wp2_with fail
  go_ret
  exact ⟨_, _, rfl, ⟨HRN.out, hfin, by omega⟩, HB.out⟩
end Go.Proofs.YtdfhhceboacdcaaGreatDoor
