/- Part 15 of the texts behind this claim. -/
import Derived.Test.YtdfhhceboacdcaaGreatDoorGk5
import Derived.Test.YtdfhhceboacdcaaGreatDoorGk6
import Derived.Test.YtdfhhceboacdcaaGreatDoorGk10
import Derived.Test.YtdfhhceboacdcaaGreatDoorGk14
set_option linter.unusedVariables false
set_option linter.unusedSimpArgs false
namespace Go.Proofs.YtdfhhceboacdcaaGreatDoor
open Go.RowKit
structure CP where
 p : Value → Value → World → Prop
 st : ∀ u v w w', p u v w → Below w.heap.size w w' → p u v w'
 pt : ∀ u v w q x y, p u v w → w.cell? q = some x → (∀ t : Int, x ≠ .int .u32 t) → p u v (w.setCell q y)
 nb : ∀ u v w, p u v w → ∃ b A l c, u = .bool b ∧ v = .slice A l c
theorem RN.set_ {w : World} {A : Option Addr} {xs : List Nat} (h : RN w A xs) {p : Addr} {v : Value} (hp : w.cell? p = some v) (hv : ∀ x : Int, v ≠ .int .u32 x) (u : Value) : RN (w.setCell p u) A xs := fun hn => by
 obtain ⟨ad, e, hc⟩ := h hn; exact ⟨ad, e, fun j hj => (World.cell?_setCell_other w p _ u (fun e2 => hv _ (Option.some.inj (hp.symm.trans ((congrArg w.cell? e2).trans (hc j hj)))))).trans (hc j hj)⟩
def zC (z : Int) : CP where
 p u v w := ∃ A c, u = .bool (decide (z < 0)) ∧ v = .slice A (ln z.natAbs) c ∧ NN w A c z.natAbs
 st := fun u v w w' ⟨A, c, h1, h2, h3⟩ hb => ⟨A, c, h1, h2, h3.to hb⟩
 pt := fun u v w q x y ⟨A, c, h1, h2, h3⟩ hq hx => ⟨A, c, h1, h2, h3.set_ hq hx y⟩
 nb := fun u v w ⟨A, c, h1, h2, h3⟩ => ⟨_, _, _, _, h1, h2⟩
def rC (r : Raw) : CP where
 p u v w := u = .bool r.neg ∧ v = .slice r.A r.xs.length r.c ∧ r.at_ w
 st := fun u v w w' ⟨h1, h2, h3⟩ hb => ⟨h1, h2, Raw.at_to h3 hb⟩
 pt := fun u v w q x y ⟨h1, h2, h3⟩ hq hx => ⟨h1, h2, h3.1.set_ hq hx y, h3.2⟩
 nb := fun u v w ⟨h1, h2, h3⟩ => ⟨_, _, _, _, h1, h2⟩
def aC : CP where
 p u v w := ∃ b A l c, u = .bool b ∧ v = .slice A l c
 st := fun u v w w' h _ => h
 pt := fun u v w q x y h _ _ => h
 nb := fun u v w h => h
theorem cp_any {c : CP} {u v : Value} {w : World} (h : c.p u v w) : aC.p u v w := c.nb u v w h
def cellsP : List CP → List Value → World → Prop
 | [], vs, _ => vs = []
 | c :: l, vs, w => ∃ u v rest, vs = u :: v :: rest ∧ c.p u v w ∧ cellsP l rest w
theorem cellsP_st : ∀ (l : List CP) (vs : List Value) (w w' : World), cellsP l vs w → Below w.heap.size w w' → cellsP l vs w'
 | [], _, _, _, h, _ => h
 | c :: l, _, w, w', ⟨u, v, rest, e, hc, hl⟩, hb => ⟨u, v, rest, e, c.st _ _ _ _ hc hb, cellsP_st l rest w w' hl hb⟩
theorem cellsP_pt : ∀ (l : List CP) (vs : List Value) (w : World) (q : Addr) (x y : Value), cellsP l vs w → w.cell? q = some x → (∀ t : Int, x ≠ .int .u32 t) → cellsP l vs (w.setCell q y)
 | [], _, _, _, _, _, h, _, _ => h
 | c :: l, _, w, q, x, y, ⟨u, v, rest, e, hc, hl⟩, hq, hx => ⟨u, v, rest, e, c.pt _ _ _ _ _ _ hc hq hx, cellsP_pt l rest w q x y hl hq hx⟩
def isL (l : List CP) : SP := ⟨fun v w => ∃ vs : List Value, v = .agg vs.toArray ∧ cellsP l vs w, fun v w w' ⟨vs, h, hl⟩ hb => ⟨vs, h, cellsP_st l vs w w' hl hb⟩⟩
theorem isL_isZ {z : Int} {v : Value} {w : World} : (isL [zC z]).p v w ↔ (isZ z).p v w := by
 constructor
 ·rintro ⟨vs, rfl, u, x, rest, rfl, ⟨A, c, rfl, rfl, hn⟩, rfl⟩; exact ⟨A, c, rfl, hn⟩
 rintro ⟨A, c, rfl, hn⟩; exact ⟨_, rfl, _, _, _, rfl, ⟨A, c, rfl, rfl, hn⟩, rfl⟩
def HL (w : World) (g : Nat) (t : TypeId) (l : List CP) : Prop := ∃ vs, Blk w g t vs ∧ cellsP l vs w
section
variable {w w' : World} {g h : Nat} {t t' : TypeId} {l l' : List CP} {c c' d d' : CP} {u v x y : Value} {z n m : Int}
theorem HL.to (k : HL w g t l) (hb : Below w.heap.size w w') : HL w' g t l := let ⟨vs, h1, h2⟩ := k; ⟨vs, h1.to hb, cellsP_st l vs w w' h2 hb⟩
theorem HL.lt (k : HL w g t l) : g < w.heap.size := let ⟨vs, h1, h2⟩ := k; h1.lt
theorem HL.one (k : HL w g t [c]) : ∃ u v, Blk w g t [u, v] ∧ c.p u v w := by
 obtain ⟨vs, h1, u, v, rest, rfl, hc, rfl⟩ := k; exact ⟨u, v, h1, hc⟩
theorem HL.two (k : HL w g t [c, d]) : ∃ u v x y, Blk w g t [u, v, x, y] ∧ c.p u v w ∧ d.p x y w := by
 obtain ⟨vs, h1, u, v, rest, rfl, hc, x, y, rest, rfl, hd, rfl⟩ := k; exact ⟨u, v, x, y, h1, hc, hd⟩
theorem HL.mk1 (h1 : Blk w g t [u, v]) (hc : c.p u v w) : HL w g t [c] := ⟨_, h1, u, v, _, rfl, hc, rfl⟩
theorem HL.mk2 (h1 : Blk w g t [u, v, x, y]) (hc : c.p u v w) (hd : d.p x y w) : HL w g t [c, d] := ⟨_, h1, u, v, _, rfl, hc, x, y, _, rfl, hd, rfl⟩
theorem HL.hz (k : HL w g t [zC z]) : HZ w g t z := by
 obtain ⟨u, v, h1, A, c, rfl, rfl, hn⟩ := k.one; exact ⟨A, c, h1, hn⟩
theorem HZ.hl (k : HZ w g t z) : HL w g t [zC z] := let ⟨A, c, h1, hn⟩ := k; HL.mk1 h1 ⟨A, c, rfl, rfl, hn⟩
def putAt (w : World) (g o : Nat) (u v : Value) : World := (w.setCell ⟨g, o, none⟩ u).setCell ⟨g, o + 1, none⟩ v
theorem nb_cells {o : Nat} {vs : List Value} (hb : Blk w g t vs) (hn : aC.p x y w) (h0 : vs[o]? = some x) (h1 : vs[o + 1]? = some y) :
  w.cell? ⟨g, o, none⟩ = some x ∧ (w.setCell ⟨g, o, none⟩ u).cell? ⟨g, o + 1, none⟩ = some y ∧ (∀ t : Int, x ≠ .int .u32 t) ∧ (∀ t : Int, y ≠ .int .u32 t) := by
 obtain ⟨b, A, l, c, rfl, rfl⟩ := hn; refine ⟨(hb.cell o).trans h0, ?_, by intro t; simp, by intro t; simp⟩; refine (World.cell?_setCell_other _ _ _ _ ?_).trans ((hb.cell (o + 1)).trans h1); intro e; injection e with e1 e2 e3
 omega
theorem cellsP_put {o : Nat} {vs : List Value} {vs' : List Value} (hb : Blk w g t vs) (hn : aC.p x y w) (h0 : vs[o]? = some x) (h1 : vs[o + 1]? = some y) (hl : cellsP l' vs' w) : cellsP l' vs' (putAt w g o u v) := by
 obtain ⟨k0, k1, n0, n1⟩ := nb_cells (u := u) hb hn h0 h1; exact cellsP_pt _ _ _ _ _ _ (cellsP_pt _ _ _ _ _ _ hl k0 n0) k1 n1
theorem cp_put {o : Nat} {vs : List Value} {a b : Value} (hb : Blk w g t vs) (hn : aC.p x y w) (h0 : vs[o]? = some x) (h1 : vs[o + 1]? = some y) (hl : c.p a b w) : c.p a b (putAt w g o u v) := by
 obtain ⟨k0, k1, n0, n1⟩ := nb_cells (u := u) hb hn h0 h1; exact c.pt _ _ _ _ _ _ (c.pt _ _ _ _ _ _ hl k0 n0) k1 n1
theorem blk_putAt {o : Nat} {vs : List Value} (hb : Blk w g t vs) : Blk (putAt w g o u v) g t ((vs.set o u).set (o + 1) v) := (hb.set_ o u).set_ (o + 1) v
theorem blk_farAt {o : Nat} {vs : List Value} (hb : Blk w h t vs) (hne : h ≠ g) : Blk (putAt w g o u v) h t vs := (hb.far (p := ⟨g, o, none⟩) hne u).far (p := ⟨g, o + 1, none⟩) hne v
inductive Slot : List CP → Nat → Prop
 | one (c : CP) : Slot [c] 0
 | left (c d : CP) : Slot [c, d] 0
 | right (c d : CP) : Slot [c, d] 2
theorem Slot.at_ {o : Nat} (s : Slot l o) (k : HL w g t l) : ∃ vs x y, Blk w g t vs ∧ aC.p x y w ∧ vs[o]? = some x ∧ vs[o + 1]? = some y := by
 cases s with
 | one c => obtain ⟨u, v, hb, hc⟩ := k.one; exact ⟨_, u, v, hb, cp_any hc, rfl, rfl⟩
 | left c d => obtain ⟨u, v, x, y, hb, hc, hd⟩ := k.two; exact ⟨_, u, v, hb, cp_any hc, rfl, rfl⟩
 | right c d => obtain ⟨u, v, x, y, hb, hc, hd⟩ := k.two; exact ⟨_, x, y, hb, cp_any hd, rfl, rfl⟩
theorem HL.far {o : Nat} (k : HL w h t' l') (s : Slot l o) (b : HL w g t l) (hne : h ≠ g) : HL (putAt w g o u v) h t' l' := by
 obtain ⟨vs, x, y, hb, ha, h0, h1⟩ := s.at_ b; obtain ⟨vs', hb', hl'⟩ := k; exact ⟨vs', blk_farAt hb' hne, cellsP_put hb ha h0 h1 hl'⟩
theorem cp_at {o : Nat} {a b : Value} (hc : c.p a b w) (s : Slot l o) (k : HL w g t l) : c.p a b (putAt w g o u v) := by
 obtain ⟨vs, x, y, hb, ha, h0, h1⟩ := s.at_ k; exact cp_put hb ha h0 h1 hc
theorem NN.putAt {o : Nat} {A : Option Addr} {cc nn : Nat} (hn : NN w A cc nn) (s : Slot l o) (k : HL w g t l) : NN (putAt w g o u v) A cc nn := by
 obtain ⟨vs, x, y, hb, ha, h0, h1⟩ := s.at_ k; obtain ⟨k0, k1, n0, n1⟩ := nb_cells (u := u) hb ha h0 h1; exact (hn.set_ k0 n0 _).set_ k1 n1 _
theorem isL.put {o : Nat} {a : Value} (hc : (isL l').p a w) (s : Slot l o) (k : HL w g t l) : (isL l').p a (putAt w g o u v) := by
 obtain ⟨vs, x, y, hb, ha, h0, h1⟩ := s.at_ k; obtain ⟨vs', e, hl⟩ := hc; exact ⟨vs', e, cellsP_put hb ha h0 h1 hl⟩
theorem HL.put1 (k : HL w g t [c]) (hc : c'.p u v w) : HL (putAt w g 0 u v) g t [c'] := by
 have hc' := cp_at hc (u := u) (v := v) (Slot.one c) k; obtain ⟨a, b, hb, ha⟩ := k.one; exact HL.mk1 (blk_putAt hb) hc'
theorem HL.put20 (k : HL w g t [c, d]) (hc : c'.p u v w) : HL (putAt w g 0 u v) g t [c', d] := by
 have hc' := cp_at hc (u := u) (v := v) (Slot.left c d) k; obtain ⟨a, b, a', b', hb, ha, hd⟩ := k.two; have hd' := cp_at hd (u := u) (v := v) (Slot.left c d) k; exact HL.mk2 (blk_putAt hb) hc' hd'
theorem HL.put22 (k : HL w g t [c, d]) (hc : d'.p u v w) : HL (putAt w g 2 u v) g t [c, d'] := by
 have hc' := cp_at hc (u := u) (v := v) (Slot.right c d) k; obtain ⟨a, b, a', b', hb, ha, hd⟩ := k.two; have ha' := cp_at ha (u := u) (v := v) (Slot.right c d) k; exact HL.mk2 (blk_putAt hb) ha' hc'
theorem below_putAt {B : Nat} {w0 : World} {o : Nat} (hb : Below B w0 w) (hg : B ≤ g) : Below B w0 (Go.Proofs.YtdfhhceboacdcaaGreatDoor.putAt w g o u v) := below_set (below_set hb hg u) hg v
end
structure Ent where
 g : Nat
 t : TypeId
 l : List CP
def Env (w : World) : List Ent → Prop
 | [] => True
 | e :: L => HL w e.g e.t e.l ∧ (∀ e' ∈ L, e'.g ≠ e.g) ∧ Env w L
section
variable {w w' : World} {L : List Ent} {e e' : Ent} {i o : Nat} {u v : Value}
theorem Env.to : ∀ {L : List Ent}, Env w L → Below w.heap.size w w' → Env w' L
 | [], _, _ => trivial
 | e :: L, ⟨h1, h2, h3⟩, hb => ⟨h1.to hb, h2, Env.to h3 hb⟩
theorem Env.mem : ∀ {L : List Ent}, Env w L → e ∈ L → HL w e.g e.t e.l
 | e0 :: L, ⟨h1, h2, h3⟩, h => by
  rcases List.mem_cons.1 h with rfl | h
  ·exact h1
  exact Env.mem h3 h
theorem Env.get (h : Env w L) (i : Nat) (hi : L[i]? = some e) : HL w e.g e.t e.l := h.mem (List.mem_of_getElem? hi)
theorem Env.add : ∀ {L : List Ent}, Env w L → HL w e.g e.t e.l → (∀ e' ∈ L, e'.g < e.g) → Env w (L ++ [e])
 | [], _, he, _ => ⟨he, fun e' h => (by cases h), trivial⟩
 | e0 :: L, ⟨h1, h2, h3⟩, he, hl => ⟨h1, fun e' h => by
   rcases List.mem_append.1 h with h | h
   ·exact h2 e' h
   rcases List.mem_singleton.1 h with rfl
   have := hl e0 (List.mem_cons_self ..)
   omega, Env.add h3 he (fun e' h => hl e' (List.mem_cons_of_mem _ h))⟩
theorem Env.lt (h : Env w L) : ∀ e ∈ L, e.g < w.heap.size := fun e he => (h.mem he).lt
theorem Env.new {g : Nat} {t : TypeId} {l : List CP} (h : Env w L) (hb : Below w.heap.size w w') (hg : w.heap.size ≤ g) (he : HL w' g t l) : Env w' (L ++ [⟨g, t, l⟩]) :=
 Env.add (e := ⟨g, t, l⟩) (h.to hb) he (fun e' h' => Nat.lt_of_lt_of_le (h.lt e' h') hg)
theorem Env.far {g : Nat} {t : TypeId} {l : List CP} : ∀ {L : List Ent}, Env w L → (s : Slot l o) → (k : HL w g t l) → (∀ e' ∈ L, e'.g ≠ g) → Env (putAt w g o u v) L
 | [], _, _, _, _ => trivial
 | e :: L, ⟨h1, h2, h3⟩, s, k, hne => ⟨h1.far s k (hne e (List.mem_cons_self ..)), h2, Env.far h3 s k (fun e' h => hne e' (List.mem_cons_of_mem _ h))⟩
theorem Env.put : ∀ {L : List Ent} (i : Nat) {g : Nat} {t : TypeId} {l l' : List CP}, Env w L → L[i]? = some ⟨g, t, l⟩ → Slot l o → HL (putAt w g o u v) g t l' → Env (putAt w g o u v) (L.set i ⟨g, t, l'⟩)
 | e :: L, 0, g, t, l, l', ⟨h1, h2, h3⟩, hi, s, hk => by
  obtain rfl : e = ⟨g, t, l⟩ := by simpa using hi
  exact ⟨hk, h2, Env.far h3 s h1 h2⟩
 | e :: L, i + 1, g, t, l, l', ⟨h1, h2, h3⟩, hi, s, hk => by
  have hi' : L[i]? = some ⟨g, t, l⟩ := by simpa using hi
  have hm := List.mem_of_getElem? hi'; have k := h3.get i hi'; refine ⟨h1.far s k (Ne.symm (h2 _ hm)), ?_, Env.put i h3 hi' s hk⟩; intro e' he'; rcases List.mem_or_eq_of_mem_set he' with h | rfl
  ·exact h2 e' h
  exact (show g ≠ e.g from h2 ⟨g, t, l⟩ hm)
theorem Env.put1 (i : Nat) {g : Nat} {t : TypeId} {c c' : CP} (h : Env w L) (hi : L[i]? = some ⟨g, t, [c]⟩) (hc : c'.p u v w) : Env (putAt w g 0 u v) (L.set i ⟨g, t, [c']⟩) :=
 h.put i hi (.one c) ((h.get i hi).put1 hc)
theorem Env.put20 (i : Nat) {g : Nat} {t : TypeId} {c d c' : CP} (h : Env w L) (hi : L[i]? = some ⟨g, t, [c, d]⟩) (hc : c'.p u v w) : Env (putAt w g 0 u v) (L.set i ⟨g, t, [c', d]⟩) :=
 h.put i hi (.left c d) ((h.get i hi).put20 hc)
theorem Env.put22 (i : Nat) {g : Nat} {t : TypeId} {c d c' : CP} (h : Env w L) (hi : L[i]? = some ⟨g, t, [c, d]⟩) (hc : c'.p u v w) : Env (putAt w g 2 u v) (L.set i ⟨g, t, [c, c']⟩) :=
 h.put i hi (.right c d) ((h.get i hi).put22 hc)
end
def DepsD (ds AL : List Nat) (V : Nat → Value → World → Prop) (i : Nat) (a : Act) (w : World) : Prop :=
 ∀ j, (decide (j < i) && !AL.contains j) = true → V j (a.eval (.tmp (ds.getD j 0))) w
theorem wp_region_vd {id : Nat} {l : List Oper} {a0 : Act} {w0 : World} {Q : Exit → Act → World → Prop} (n1 : Nat) (ds E AL : List Nat) (T : TypeId) (z : List Value) (Vs : List SP)
  (hD : VarG l n1 ds E AL T a0.tmps.size = true)
  (hz : ∀ w : World, (Instr.alloc T true (.tuple #[])).run Tryz.prog w = .ok (.pointer (some ⟨w.heap.size, 0, none⟩)) (w.alloc (.cells z.toArray T)))
  (hop : ∀ i, i < n1 → AL.contains i = false → ∀ a w, Below w0.heap.size w0 w → (∀ t, ds.contains t = false → a.eval (.tmp t) = a0.eval (.tmp t)) → DepsD ds AL (vp Vs) i a w →
   match l[i]? with | none => True | some o => (WantG l ds o a true ∧ if E.contains i then ∃ v, (∀ w, (execOp a.eval o).run Tryz.prog w = .ok (.value v) w) ∧ vp Vs i v w else o.wp Tryz.prog a w (Post a w (ds.getD i 0) (vp Vs i)) Q) ∨ (WantG l ds o a false ∧ vp Vs i undef w))
  (hend : ∀ (vs : Nat → Value) (w : World), Below w0.heap.size w0 w → (∀ i, i < n1 → AL.contains i = false → vp Vs i (vs (ds.getD i 0)) w) →
   (∀ i, AL.contains i = true → ∃ g, vs (ds.getD i 0) = .pointer (some ⟨g, 0, none⟩) ∧ w0.heap.size ≤ g ∧ Blk w g T z) → (∀ i j, AL.contains i = true → AL.contains j = true → i ≠ j → vs (ds.getD i 0) ≠ vs (ds.getD j 0)) → wpList Tryz.prog l.toArray Q (l.drop n1) (putAll a0 ds vs) w) :
  (Code.region id l.toArray false).wp Tryz.prog Q a0 w0 := by
 unfold VarG at hD; simp only [Bool.and_eq_true, decide_eq_true_eq, List.all_eq_true, List.mem_range] at hD; obtain ⟨⟨⟨⟨⟨⟨hdl, hnl⟩, hdt⟩, hnd⟩, hEE⟩, hAA⟩, hops⟩ := hD
 have hop1 : ∀ i, i < n1 → ∃ o, l[i]? = some o ∧ o.dst = some (ds.getD i 0) ∧ (AL.contains i = true → o.guard = none) ∧ (AL.contains i = true → o.op = .alloc T) := by
  intro i hi; have h := hops i hi
  cases ho : l[i]? with
  | none => rw [ho] at h; cases h
  | some o =>
   rw [ho] at h; simp only [Bool.and_eq_true, decide_eq_true_eq, Bool.or_eq_true, Bool.not_eq_true', Option.isNone_iff_eq_none] at h; refine ⟨o, rfl, h.1.1, fun hA => h.1.2.elim (fun h3 => by rw [hA] at h3; cases h3) (fun h3 => h3), fun hA => ?_⟩; rcases h.2 with h2 | h2
   ·rw [hA] at h2; cases h2
   revert h2
   cases o.op <;> simp
 have hdi : ∀ i, i < n1 → ds.getD i 0 < a0.tmps.size := by
  intro i hi
  have : ds.getD i 0 ∈ ds := by
   rw [List.getD_eq_getElem?_getD, List.getElem?_eq_getElem (by omega)]; exact List.getElem_mem _
  exact hdt _ this
 let V : Nat → Value → World → Prop := vp Vs
 have hV : ∀ i v w w', V i v w → Below w.heap.size w w' → V i v w' := fun i v w w' h hb => (Vs.getD i SP.any).st v w w' h hb
 let F : Nat → Value → World → Prop := fun i v w => if AL.contains i then ∃ g, v = .pointer (some ⟨g, 0, none⟩) ∧ w0.heap.size ≤ g ∧ Blk w g T z else V i v w
 have hFs : ∀ i v w w', F i v w → Below w.heap.size w w' → F i v w' := by
  intro i v w w' h hb; show if _ then _ else _
  have h' : if _ then _ else _ := h
  split at h'
  ·next hA =>
   rw [if_pos hA]; obtain ⟨g, h1, h2, h3⟩ := h'; exact ⟨g, h1, h2, h3.to hb⟩
  next hA => rw [if_neg hA]; exact hV _ _ _ _ h' hb
 let I : Nat → Act → World → Prop := fun k a w => Below w0.heap.size w0 w ∧ a.defers = a0.defers ∧ a.tmps.size = a0.tmps.size ∧ (∀ t, t ∉ ds → a0.tmps[t]? = a.tmps[t]?) ∧
  (∀ i, i < n1 → i < k → F i (a.eval (.tmp (ds.getD i 0))) w) ∧
  (∀ i j, AL.contains i = true → AL.contains j = true → i ≠ j → i < k → j < k → a.eval (.tmp (ds.getD i 0)) ≠ a.eval (.tmp (ds.getD j 0)))
 have hAlt : ∀ i, AL.contains i = true → i < n1 := fun i h => hAA i (by simpa using h)
 have key : ∀ a w i v w', I i a w → i < n1 → Below w.heap.size w w' → F i v w' → (AL.contains i = true → ∀ j, AL.contains j = true → i ≠ j → j < i → v ≠ a.eval (.tmp (ds.getD j 0))) → I (i + 1) (a.put (some (ds.getD i 0)) v) w' := by
  intro a w i v w' ⟨hb, hdf, hts, hot, hf, hne⟩ hi hb' hv hd; refine ⟨below_then hb hb.size hb', hdf, by simp [Act.put, hts], fun t ht => ?_, fun j hj hL => ?_, fun j k hj hk hjk hLj hLk => ?_⟩
  ·have : ds.getD i 0 ≠ t := fun e => ht (by rw [← e, List.getD_eq_getElem?_getD, List.getElem?_eq_getElem (by omega)]; exact List.getElem_mem _)
   show _ = (a.tmps.setIfInBounds _ _)[t]?; rw [Array.getElem?_setIfInBounds_ne this]; exact hot t ht
  ·by_cases hij : j = i
   ·subst hij; rw [eval_put_same (by rw [hts]; exact hdi _ hi)]; exact hv
   rw [eval_put_other (nodup_ne hnd (by omega) (by omega) (Ne.symm hij))]; exact hFs _ _ _ _ (hf j hj (by omega)) hb'
  have hjn := hAlt j hj; have hkn := hAlt k hk; by_cases hji : j = i
  ·subst hji; rw [eval_put_same (by rw [hts]; exact hdi _ hi), eval_put_other (nodup_ne hnd (by omega) (by omega) hjk)]; exact hd hj k hk hjk (by omega)
  by_cases hki : k = i
  ·subst hki; rw [eval_put_same (by rw [hts]; exact hdi _ hi), eval_put_other (nodup_ne hnd (by omega) (by omega) (Ne.symm hji))]; exact Ne.symm (hd hk j hj (Ne.symm hjk) (by omega))
  rw [eval_put_other (nodup_ne hnd (by omega) (by omega) (Ne.symm hji)), eval_put_other (nodup_ne hnd (by omega) (by omega) (Ne.symm hki))]; exact hne j k hj hk hjk (by omega) (by omega)
 have main : ∀ m k, m + k = n1 → ∀ a w, I k a w → wpList Tryz.prog l.toArray Q (l.drop k) a w := by
  intro m
  induction m with
  | zero =>
   intro k hk a w ⟨hb, hdf, hts, hot, hf, hne⟩; have hk1 : k = n1 := by omega
   subst hk1; have he := putAll_eq (a := a) ds a0 hdf.symm hts.symm (fun d hd => by rw [hts]; exact hdt d hd) hot; rw [← he]; refine hend (fun t => a.eval (.tmp t)) w hb (fun i hi hA => ?_) (fun i hA => ?_) (fun i j hi hj hij => hne i j hi hj hij (hAlt i hi) (hAlt j hj))
   ·have h3 : if AL.contains i then _ else _ := hf i hi hi
    rw [if_neg (by rw [hA]; simp)] at h3; exact h3
   have h3 : if AL.contains i then _ else _ := hf i (hAlt i hA) (hAlt i hA)
   rw [if_pos hA] at h3; exact h3
  | succ m ih =>
   intro i hk a w hI; have hi : i < n1 := by omega
   obtain ⟨o, ho, hdst, hg, hal⟩ := hop1 i hi
   have hcons : l.drop i = o :: l.drop (i + 1) := by
    have hlt : i < l.length := by omega
    rw [List.getElem?_eq_getElem hlt] at ho; rw [← Option.some.inj ho]; exact (List.getElem_cons_drop (h := hlt)).symm
   have next : ∀ a w, I (i + 1) a w → wpList Tryz.prog l.toArray Q (l.drop (i + 1)) a w := ih (i + 1) (by omega); rw [hcons]; unfold wpList; by_cases hA : AL.contains i = true
   ·rw [if_pos (by simp [Region.wanted, hg hA])]; refine .inl ?_; unfold Oper.wp execOp; simp only [hal hA, Sem.run_bind, hz, Result.andThen_ok, Sem.run_pure, Oper.upon, hdst]; refine next _ _ (key a w i _ _ hI hi (below_alloc (Below.refl _ _) _) ?_ ?_)
    ·show if _ then _ else _
     rw [if_pos hA]; exact ⟨_, rfl, hI.1.size, heap_alloc_new _ _⟩
    intro _ j hj hij hL; have h3 : if AL.contains j then _ else _ := hI.2.2.2.2.1 j (hAlt j hj) hL
    rw [if_pos hj] at h3; obtain ⟨g, hg1, _, hg2⟩ := h3; rw [hg1]; intro he; have := hg2.lt; injection he with he
    injection he with he
    injection he with he
    omega
   have hA' : AL.contains i = false := by simpa using hA
   have hI2 := hI; obtain ⟨hb, hdf, hts, hot, hf, hne⟩ := hI2
   have h3 := hop i hi hA' a w hb (fun t ht => by
    have := hot t (by simpa using ht); show a.tmps.getD t undef = a0.tmps.getD t undef
    simp only [Array.getD_eq_getD_getElem?, this]) (fun j hj => by
    simp only [Bool.and_eq_true, decide_eq_true_eq, Bool.not_eq_true'] at hj; have h1 : if AL.contains j then _ else _ := hf j (by omega) hj.1
    rw [if_neg (by rw [hj.2]; simp)] at h1
    exact h1)
   rw [ho] at h3; simp only at h3; rcases h3 with ⟨hw, h3⟩ | ⟨hw, hv⟩
   ·rw [if_pos hw.wanted]; refine .inl ?_; by_cases hE : E.contains i = true
    ·rw [if_pos hE] at h3; obtain ⟨v, hy, hv⟩ := h3; unfold Oper.wp; rw [hy]; show wpList _ _ _ _ (a.put o.dst v) w; rw [hdst]; exact next _ _ (key a w i v w hI hi (Below.refl _ _) (by show if _ then _ else _; rw [if_neg hA]; exact hv) (fun h => absurd h hA))
    rw [if_neg hE] at h3; refine Oper.wp_mono (fun a' w' h => ?_) h3; obtain ⟨v, rfl, hb', hv⟩ := h; exact next _ _ (key a w i v w' hI hi hb' (by show if _ then _ else _; rw [if_neg hA]; exact hv) (fun h => absurd h hA))
   rw [if_neg (by rw [hw.wanted]; simp), hdst]; exact next _ _ (key a w i undef w hI hi (Below.refl _ _) (by show if _ then _ else _; rw [if_neg hA]; exact hv) (fun h => absurd h hA))
 refine wp_region_lit ?_; have h0 := main n1 0 (by omega) a0 w0 ⟨Below.refl _ _, rfl, rfl, fun _ _ => rfl, fun i _ h => absurd h (by omega), fun i j _ _ _ h _ => absurd h (by omega)⟩; rwa [List.drop_zero] at h0
section
variable {Q : Exit → Act → World → Prop} {o : Oper} {a : Act} {d : Nat} {x y z : Operand} {ty : TypeId} {k : Int} {b : Bool} {v v' : Value}
theorem op_neq0 (ho : o.op = .binOp .neq 3 x (.const (.int .i64 0)) ty) (hx : a.eval x = .int .i64 k) (w : World) : (execOp a.eval o).run Tryz.prog w = .ok (.value (.bool (!decide (k = 0)))) w := by
 unfold execOp; have hc : a.eval (.const (.int .i64 0)) = .int .i64 0 := rfl; simp only [ho, hx, hc]; simp [go_sem]; rfl
theorem op_pickT (ho : o.op = .pick x y z) (hx : a.eval x = .bool true) (hy : a.eval y = v) (w : World) : (execOp a.eval o).run Tryz.prog w = .ok (.value v) w := by
 unfold execOp; simp only [ho, hx, hy]; simp [go_sem]
theorem op_pickF (ho : o.op = .pick x y z) (hx : a.eval x = .bool false) (hz : a.eval z = v) (w : World) : (execOp a.eval o).run Tryz.prog w = .ok (.value v) w := by
 unfold execOp; simp only [ho, hx, hz]; simp [go_sem]
theorem op_not (ho : o.op = .unOp .not 4 x) (hx : a.eval x = .bool b) (w : World) : (execOp a.eval o).run Tryz.prog w = .ok (.value (.bool (!b))) w := by
 unfold execOp; simp only [ho, hx]; simp [go_sem]
end
def CAt (w : World) (g o : Nat) (c : CP) : Prop := ∃ u v, w.cell? ⟨g, o, none⟩ = some u ∧ w.cell? ⟨g, o + 1, none⟩ = some v ∧ c.p u v w
section
variable {w w' : World} {g o : Nat} {t : TypeId} {c d : CP} {l : List CP} {L : List Ent} {e : Ent}
theorem CAt.to (h : CAt w g o c) (hb : Below w.heap.size w w') : CAt w' g o c := by
 obtain ⟨u, v, h1, h2, h3⟩ := h; exact ⟨u, v, (hb.cell (World.block_lt_of_cell? w _ h1)).trans h1, (hb.cell (World.block_lt_of_cell? w _ h2)).trans h2, c.st _ _ _ _ h3 hb⟩
theorem HL.a0 (k : HL w g t (c :: l)) : CAt w g 0 c := by
 obtain ⟨vs, hb, u, v, rest, rfl, hc, _⟩ := k; exact ⟨u, v, hb.cell 0, hb.cell 1, hc⟩
theorem HL.a2 (k : HL w g t (c :: d :: l)) : CAt w g 2 d := by
 obtain ⟨vs, hb, u, v, rest, rfl, hc, x, y, rest, rfl, hd, _⟩ := k; exact ⟨x, y, hb.cell 2, hb.cell 3, hd⟩
theorem isL_one {v : Value} : (isL [c]).p v w ↔ ∃ x y, v = .agg #[x, y] ∧ c.p x y w := by
 constructor
 ·rintro ⟨vs, rfl, u, x, rest, rfl, hc, rfl⟩; exact ⟨u, x, rfl, hc⟩
 rintro ⟨x, y, rfl, hc⟩; exact ⟨_, rfl, _, _, _, rfl, hc, rfl⟩
theorem isL_two {v : Value} : (isL [c, d]).p v w ↔ ∃ x y x' y', v = .agg #[x, y, x', y'] ∧ c.p x y w ∧ d.p x' y' w := by
 constructor
 ·rintro ⟨vs, rfl, u, x, rest, rfl, hc, x', y', rest, rfl, hd, rfl⟩; exact ⟨u, x, x', y', rfl, hc, hd⟩
 rintro ⟨x, y, x', y', rfl, hc, hd⟩; exact ⟨_, rfl, _, _, _, rfl, hc, _, _, _, rfl, hd, rfl⟩
end
section
variable {Q : Exit → Act → World → Prop} {o : Oper} {a : Act} {w : World} {d : Nat} {z : Int} {g off : Nat} {x y : Operand} {c c' : CP} {l : List CP}
theorem ld_I {u v : Value} (h0 : w.cell? ⟨g, off, none⟩ = some u) (h1 : w.cell? ⟨g, off + 1, none⟩ = some v) : (Instr.loadAt 24 (.pointer (some ⟨g, off, none⟩))).run Tryz.prog w = .ok (.agg #[u, v]) w := by
 simp [go_sem, h0, h1]
theorem op_ldI (ho : o.op = .load 24 x) (hd : o.dst = some d) (hx : a.eval x = .pointer (some ⟨g, off, none⟩)) (hc : CAt w g off c) : o.wp Tryz.prog a w (Post a w d (isL [c]).p) Q :=
 let ⟨u, v, h0, h1, h2⟩ := hc; op_load ho hd hx (ld_I h0 h1) (isL_one.2 ⟨u, v, rfl, h2⟩)
theorem op_ldIz (ho : o.op = .load 24 x) (hd : o.dst = some d) (hx : a.eval x = .pointer (some ⟨g, off, none⟩)) (hc : CAt w g off (zC z)) : o.wp Tryz.prog a w (Post a w d (isZ z).p) Q :=
 let ⟨u, v, h0, h1, A, c, e1, e2, h3⟩ := hc; op_load ho hd hx (ld_I h0 h1) ⟨A, c, by rw [e1, e2], h3⟩
theorem ld_W {u v : Value} (h0 : w.cell? ⟨g, off, none⟩ = some u) (h1 : w.cell? ⟨g, off + 1, none⟩ = some v) : (Instr.loadAt 51 (.pointer (some ⟨g, off, none⟩))).run Tryz.prog w = .ok (.agg #[u, v]) w := by
 simp [go_sem, h0, h1]
theorem op_ldWz (ho : o.op = .load 51 x) (hd : o.dst = some d) (hx : a.eval x = .pointer (some ⟨g, off, none⟩)) (hc : CAt w g off (zC z)) : o.wp Tryz.prog a w (Post a w d (isZ z).p) Q :=
 let ⟨u, v, h0, h1, A, c, e1, e2, h3⟩ := hc; op_load ho hd hx (ld_W h0 h1) ⟨A, c, by rw [e1, e2], h3⟩
theorem ld_Z {u v : Value} (h0 : w.cell? ⟨g, off, none⟩ = some u) (h1 : w.cell? ⟨g, off + 1, none⟩ = some v) : (Instr.loadAt 61 (.pointer (some ⟨g, off, none⟩))).run Tryz.prog w = .ok (.agg #[u, v]) w := by
 simp [go_sem, h0, h1]
theorem op_ldZz (ho : o.op = .load 61 x) (hd : o.dst = some d) (hx : a.eval x = .pointer (some ⟨g, off, none⟩)) (hc : CAt w g off (zC z)) : o.wp Tryz.prog a w (Post a w d (isZ z).p) Q :=
 let ⟨u, v, h0, h1, A, c, e1, e2, h3⟩ := hc; op_load ho hd hx (ld_Z h0 h1) ⟨A, c, by rw [e1, e2], h3⟩
theorem ld2_R {u v u' v' : Value} {t : TypeId} (h : Blk w g t [u, v, u', v']) : (Instr.loadAt 26 (.pointer (some ⟨g, 0, none⟩))).run Tryz.prog w = .ok (.agg #[u, v, u', v']) w := by
 have h0 := h.cell 0; have h1 := h.cell 1; have h2 := h.cell 2; have h3 := h.cell 3; simp at h0 h1 h2 h3; simp [go_sem, h0, h1, h2, h3]
theorem op_ldR {t : TypeId} (ho : o.op = .load 26 x) (hd : o.dst = some d) (hx : a.eval x = .pointer (some ⟨g, 0, none⟩)) (hc : HL w g t [c, c']) : o.wp Tryz.prog a w (Post a w d (isL [c, c']).p) Q :=
 let ⟨u, v, u', v', hb, h1, h2⟩ := hc.two; op_load ho hd hx (ld2_R hb) (isL_two.2 ⟨u, v, u', v', rfl, h1, h2⟩)
theorem ld2_S {u v u' v' : Value} {t : TypeId} (h : Blk w g t [u, v, u', v']) : (Instr.loadAt 65 (.pointer (some ⟨g, 0, none⟩))).run Tryz.prog w = .ok (.agg #[u, v, u', v']) w := by
 have h0 := h.cell 0; have h1 := h.cell 1; have h2 := h.cell 2; have h3 := h.cell 3; simp at h0 h1 h2 h3; simp [go_sem, h0, h1, h2, h3]
theorem op_ldS {t : TypeId} (ho : o.op = .load 65 x) (hd : o.dst = some d) (hx : a.eval x = .pointer (some ⟨g, 0, none⟩)) (hc : HL w g t [c, c']) : o.wp Tryz.prog a w (Post a w d (isL [c, c']).p) Q :=
 let ⟨u, v, u', v', hb, h1, h2⟩ := hc.two; op_load ho hd hx (ld2_S hb) (isL_two.2 ⟨u, v, u', v', rfl, h1, h2⟩)
theorem ldn_n {v : Value} (h : w.cell? ⟨g, off, none⟩ = some v) : (Instr.loadAt 49 (.pointer (some ⟨g, off, none⟩))).run Tryz.prog w = .ok v w := by
 simp [go_sem, h]
theorem op_ldnn (ho : o.op = .load 49 x) (hd : o.dst = some d) (hx : a.eval x = .pointer (some ⟨g, off + 1, none⟩)) (hc : CAt w g off (zC z)) : o.wp Tryz.prog a w (Post a w d (isN z.natAbs).p) Q :=
 let ⟨u, v, h0, h1, A, c, e1, e2, h3⟩ := hc; op_load ho hd hx (ldn_n h1) ⟨A, c, e2, h3⟩
theorem ldn_w {v : Value} (h : w.cell? ⟨g, off, none⟩ = some v) : (Instr.loadAt 22 (.pointer (some ⟨g, off, none⟩))).run Tryz.prog w = .ok v w := by
 simp [go_sem, h]
theorem op_ldnw (ho : o.op = .load 22 x) (hd : o.dst = some d) (hx : a.eval x = .pointer (some ⟨g, off + 1, none⟩)) (hc : CAt w g off (zC z)) : o.wp Tryz.prog a w (Post a w d (isN z.natAbs).p) Q :=
 let ⟨u, v, h0, h1, A, c, e1, e2, h3⟩ := hc; op_load ho hd hx (ldn_w h1) ⟨A, c, e2, h3⟩
theorem ldb {v : Value} (h : w.cell? ⟨g, off, none⟩ = some v) : (Instr.loadAt 4 (.pointer (some ⟨g, off, none⟩))).run Tryz.prog w = .ok v w := by
 simp [go_sem, h]
theorem op_ldb (ho : o.op = .load 4 x) (hd : o.dst = some d) (hx : a.eval x = .pointer (some ⟨g, off, none⟩)) (hc : CAt w g off (zC z)) : o.wp Tryz.prog a w (Post a w d (isV (.bool (decide (z < 0)))).p) Q :=
 let ⟨u, v, h0, h1, A, c, e1, e2, h3⟩ := hc; op_load ho hd hx (ldb h0) e1
theorem op_faI0 (ho : o.op = .fieldAddr 24 x 0) (hx : a.eval x = .pointer (some ⟨g, off, none⟩)) (w : World) : (execOp a.eval o).run Tryz.prog w = .ok (.value (.pointer (some ⟨g, off + 0, none⟩))) w := by
 unfold execOp; simp only [ho, hx]; simp [go_sem]
theorem op_faI1 (ho : o.op = .fieldAddr 24 x 1) (hx : a.eval x = .pointer (some ⟨g, off, none⟩)) (w : World) : (execOp a.eval o).run Tryz.prog w = .ok (.value (.pointer (some ⟨g, off + 1, none⟩))) w := by
 unfold execOp; simp only [ho, hx]; simp [go_sem]
theorem op_faW0 (ho : o.op = .fieldAddr 51 x 0) (hx : a.eval x = .pointer (some ⟨g, off, none⟩)) (w : World) : (execOp a.eval o).run Tryz.prog w = .ok (.value (.pointer (some ⟨g, off + 0, none⟩))) w := by
 unfold execOp; simp only [ho, hx]; simp [go_sem]
theorem op_faW1 (ho : o.op = .fieldAddr 51 x 1) (hx : a.eval x = .pointer (some ⟨g, off, none⟩)) (w : World) : (execOp a.eval o).run Tryz.prog w = .ok (.value (.pointer (some ⟨g, off + 1, none⟩))) w := by
 unfold execOp; simp only [ho, hx]; simp [go_sem]
theorem op_faZ0 (ho : o.op = .fieldAddr 61 x 0) (hx : a.eval x = .pointer (some ⟨g, off, none⟩)) (w : World) : (execOp a.eval o).run Tryz.prog w = .ok (.value (.pointer (some ⟨g, off + 0, none⟩))) w := by
 unfold execOp; simp only [ho, hx]; simp [go_sem]
theorem op_faR0 (ho : o.op = .fieldAddr 26 x 0) (hx : a.eval x = .pointer (some ⟨g, off, none⟩)) (w : World) : (execOp a.eval o).run Tryz.prog w = .ok (.value (.pointer (some ⟨g, off + 0, none⟩))) w := by
 unfold execOp; simp only [ho, hx]; simp [go_sem]
theorem op_faR1 (ho : o.op = .fieldAddr 26 x 1) (hx : a.eval x = .pointer (some ⟨g, off, none⟩)) (w : World) : (execOp a.eval o).run Tryz.prog w = .ok (.value (.pointer (some ⟨g, off + 2, none⟩))) w := by
 unfold execOp; simp only [ho, hx]; simp [go_sem]
theorem op_faQ0 (ho : o.op = .fieldAddr 53 x 0) (hx : a.eval x = .pointer (some ⟨g, off, none⟩)) (w : World) : (execOp a.eval o).run Tryz.prog w = .ok (.value (.pointer (some ⟨g, off + 0, none⟩))) w := by
 unfold execOp; simp only [ho, hx]; simp [go_sem]
theorem op_faQ1 (ho : o.op = .fieldAddr 53 x 1) (hx : a.eval x = .pointer (some ⟨g, off, none⟩)) (w : World) : (execOp a.eval o).run Tryz.prog w = .ok (.value (.pointer (some ⟨g, off + 2, none⟩))) w := by
 unfold execOp; simp only [ho, hx]; simp [go_sem]
theorem op_faS0 (ho : o.op = .fieldAddr 65 x 0) (hx : a.eval x = .pointer (some ⟨g, off, none⟩)) (w : World) : (execOp a.eval o).run Tryz.prog w = .ok (.value (.pointer (some ⟨g, off + 0, none⟩))) w := by
 unfold execOp; simp only [ho, hx]; simp [go_sem]
theorem op_faS1 (ho : o.op = .fieldAddr 65 x 1) (hx : a.eval x = .pointer (some ⟨g, off, none⟩)) (w : World) : (execOp a.eval o).run Tryz.prog w = .ok (.value (.pointer (some ⟨g, off + 2, none⟩))) w := by
 unfold execOp; simp only [ho, hx]; simp [go_sem]
theorem op_bdR {y0 y1 : Operand} (ho : o.op = .build 26 #[(0, y0), (1, y1)]) (h0 : (isL [c]).p (a.eval y0) w) (h1 : (isL [c']).p (a.eval y1) w) : ∃ v, (∀ w, (execOp a.eval o).run Tryz.prog w = .ok (.value v) w) ∧ (isL [c, c']).p v w := by
 obtain ⟨u, v, e0, k0⟩ := isL_one.1 h0; obtain ⟨u', v', e1, k1⟩ := isL_one.1 h1; refine ⟨.agg #[u, v, u', v'], fun w => ?_, isL_two.2 ⟨u, v, u', v', rfl, k0, k1⟩⟩; generalize a.eval = ev at e0 e1 ⊢; unfold execOp; simp only [ho]; simp [go_sem, e0, e1]
theorem op_bdQ {y0 y1 : Operand} (ho : o.op = .build 53 #[(0, y0), (1, y1)]) (h0 : (isL [c]).p (a.eval y0) w) (h1 : (isL [c']).p (a.eval y1) w) : ∃ v, (∀ w, (execOp a.eval o).run Tryz.prog w = .ok (.value v) w) ∧ (isL [c, c']).p v w := by
 obtain ⟨u, v, e0, k0⟩ := isL_one.1 h0; obtain ⟨u', v', e1, k1⟩ := isL_one.1 h1; refine ⟨.agg #[u, v, u', v'], fun w => ?_, isL_two.2 ⟨u, v, u', v', rfl, k0, k1⟩⟩; generalize a.eval = ev at e0 e1 ⊢; unfold execOp; simp only [ho]; simp [go_sem, e0, e1]
theorem op_bdS {y0 y1 : Operand} (ho : o.op = .build 65 #[(0, y0), (1, y1)]) (h0 : (isL [c]).p (a.eval y0) w) (h1 : (isL [c']).p (a.eval y1) w) : ∃ v, (∀ w, (execOp a.eval o).run Tryz.prog w = .ok (.value v) w) ∧ (isL [c, c']).p v w := by
 obtain ⟨u, v, e0, k0⟩ := isL_one.1 h0; obtain ⟨u', v', e1, k1⟩ := isL_one.1 h1; refine ⟨.agg #[u, v, u', v'], fun w => ?_, isL_two.2 ⟨u, v, u', v', rfl, k0, k1⟩⟩; generalize a.eval = ev at e0 e1 ⊢; unfold execOp; simp only [ho]; simp [go_sem, e0, e1]
theorem op_bdW {y1 : Operand} {n : Nat} (ho : o.op = .build 51 #[(0, .const (.bool false)), (1, y1)]) (h1 : (isN n).p (a.eval y1) w) : ∃ v, (∀ w, (execOp a.eval o).run Tryz.prog w = .ok (.value v) w) ∧ (isZ (n : Int)).p v w := by
 obtain ⟨A, c, e1, k1⟩ := h1; refine ⟨.agg #[.bool false, .slice A (ln n) c], fun w => ?_, A, c, by rw [decide_eq_false (by omega), Int.natAbs_natCast], by rw [Int.natAbs_natCast]; exact k1⟩; have hc : a.eval (.const (.bool false)) = .bool false := rfl; generalize a.eval = ev at e1 hc ⊢; unfold execOp; simp only [ho]; simp [go_sem, e1, hc]
end
section
variable {w W : World} {t1 t2 t3 t4 : TypeId} {l1 l2 l3 l4 : List CP} {v1 v2 v3 v4 : List Value}
theorem hl_new (h : cellsP l1 v1 w) : HL (w.alloc (.cells v1.toArray t1)) w.heap.size t1 l1 := ⟨v1, heap_alloc_new _ _, cellsP_st _ _ _ _ h (below_alloc (Below.refl _ _) _)⟩
theorem env_one (h : cellsP l1 v1 w) (e : W = w.alloc (.cells v1.toArray t1)) : Env W [⟨w.heap.size, t1, l1⟩] ∧ Below w.heap.size w W := by
 subst e; exact ⟨⟨hl_new h, (fun e' h => by cases h), trivial⟩, below_alloc (Below.refl _ _) _⟩
theorem env_more {L : List Ent} (k : Env w L) (h : cellsP l1 v1 w) : Env (w.alloc (.cells v1.toArray t1)) (L ++ [⟨w.heap.size, t1, l1⟩]) :=
 k.new (below_alloc (Below.refl _ _) _) (Nat.le_refl _) (hl_new h)
theorem env_two (h1 : cellsP l1 v1 w) (h2 : cellsP l2 v2 w) (e : W = (w.alloc (.cells v1.toArray t1)).alloc (.cells v2.toArray t2)) :
  Env W [⟨w.heap.size, t1, l1⟩, ⟨w.heap.size + 1, t2, l2⟩] ∧ Below w.heap.size w W := by
 subst e; have a1 := env_one h1 (t1 := t1) rfl; have a2 := env_more (t1 := t2) a1.1 (cellsP_st _ _ _ _ h2 a1.2); rw [show (w.alloc (.cells v1.toArray t1)).heap.size = w.heap.size + 1 by simp] at a2; exact ⟨a2, below_alloc a1.2 _⟩
theorem env_three (h1 : cellsP l1 v1 w) (h2 : cellsP l2 v2 w) (h3 : cellsP l3 v3 w) (e : W = ((w.alloc (.cells v1.toArray t1)).alloc (.cells v2.toArray t2)).alloc (.cells v3.toArray t3)) :
  Env W [⟨w.heap.size, t1, l1⟩, ⟨w.heap.size + 1, t2, l2⟩, ⟨w.heap.size + 1 + 1, t3, l3⟩] ∧ Below w.heap.size w W := by
 subst e; have a2 := env_two h1 h2 (t1 := t1) (t2 := t2) rfl; have a3 := env_more (t1 := t3) a2.1 (cellsP_st _ _ _ _ h3 a2.2); rw [show ((w.alloc (.cells v1.toArray t1)).alloc (.cells v2.toArray t2)).heap.size = w.heap.size + 1 + 1 by simp] at a3; exact ⟨a3, below_alloc a2.2 _⟩
theorem cp1 {c : CP} {x y : Value} {w : World} (h : c.p x y w) : cellsP [c] [x, y] w := ⟨x, y, _, rfl, h, rfl⟩
theorem cp2 {c d : CP} {x y x' y' : Value} {w : World} (h : c.p x y w) (h' : d.p x' y' w) : cellsP [c, d] [x, y, x', y'] w := ⟨x, y, _, rfl, h, x', y', _, rfl, h', rfl⟩
theorem cpz (w : World) : aC.p (.bool false) (.slice none 0 0) w := ⟨_, _, _, _, rfl, rfl⟩
theorem cp0 (w : World) : (zC 0).p (.bool false) (.slice none 0 0) w := ⟨none, 0, rfl, by rw [show Int.natAbs 0 = 0 from rfl, ln_zero], NN.nil _ _ _ (by omega)⟩
end
theorem nn_one (w : World) (t : TypeId) : NN (w.alloc (.cells #[.int .u32 1] t)) (some ⟨w.heap.size, 0, none⟩) 1 1 := by
 have h1 : dig 1 = [1] := by rw [dig_pos (by omega)]; simp [B, dig_zero]
 refine ⟨?_, by unfold ln; rw [h1]; exact Nat.le_refl _, by omega⟩; rw [h1]; exact Blk.reads (ds := [1]) (heap_alloc_new w (.cells #[.int .u32 1] t) : Blk _ _ t (cells [1]))
theorem ln_one_ : ln 1 = 1 := by
 have h1 := ln_word (d := 1) (by omega); have h2 : 0 < ln 1 := ln_pos.2 (by omega); omega
theorem sgn_quo {x y : Int} (hy : y ≠ 0) : ((decide (x < 0) != decide (y < 0)) && decide (0 < ln (x / y).natAbs)) = decide (x / y < 0) := by
 rw [← ediv_sign x y hy]; congr 1
 rw [Bool.eq_iff_iff]; simp; omega
set_option maxHeartbeats 1000000 in
set_option maxRecDepth 100000 in
theorem rOver_calls (x y : Int) (A1 : Option Addr) (c1 : Nat) (A2 : Option Addr) (c2 : Nat) (w : World) (h1 : NN w A1 c1 x.natAbs) (h2 : NN w A2 c2 y.natAbs) (hy : y ≠ 0) (l1 : ln x.natAbs ≤ 268435456) (l2 : ln y.natAbs ≤ 268435456) :
  Calls Tryz.prog 41 #[.agg #[.bool (decide (x < 0)), .slice A1 (ln x.natAbs) c1], .agg #[.bool (decide (y < 0)), .slice A2 (ln y.natAbs) c2]] w (RetZZ (x / y) (x % y) w) := by
 have hn0 : y.natAbs ≠ 0 := by omega
 have H2 := Hd.mk h2; have HD := Hd.mk (fun W (hW : Below w.heap.size w W) => divided_calls A1 c1 x.natAbs A2 c2 y.natAbs W (h1.to hW) (h2.to hW) hn0 l1 l2); obtain ⟨e1, e2⟩ := ediv_abs x y hy; have hsg := sgn_quo (x := x) hy; have hrs := emod_sign x y hy; have hlq : ln (x.natAbs / y.natAbs) ≤ 268435456 := Nat.le_trans (ln_mono (Nat.div_le_self _ _)) l1; have hrl : x.natAbs % y.natAbs ≤ y.natAbs := Nat.le_of_lt (Nat.mod_lt _ (by omega)); unfold RetZZ; rw [hrs]; obtain ⟨Q, hQ⟩ : ∃ Q, Q = x.natAbs / y.natAbs := ⟨_, rfl⟩; obtain ⟨R, hR⟩ : ∃ R, R = x.natAbs % y.natAbs := ⟨_, rfl⟩; rw [← hQ] at e1 e2 hlq HD; rw [← hR] at e1 e2 hrl HD; have hlrn : ln R ≤ 9223372036854775807 := by have := ln_mono hrl; omega
 by_cases hx : x < 0 ∧ R ≠ 0
 ·obtain ⟨f1, f2⟩ := e1 hx.1 hx.2; rw [f1] at hsg ⊢; rw [f2]; have hx1 : decide (x < 0) = true := decide_eq_true hx.1; have hlr : (0 : Int) < (ln R : Int) := by have : 0 < ln R := ln_pos.2 (by omega); omega
  rw [hx1] at hsg ⊢; have HP := Hd.mk (fun W A c A' c' (h1 : NN W A c Q) (h2 : NN W A' c' 1) => rplus_calls A c Q A' c' 1 W h1 h2 (by omega) (by have := ln_word (d := 1) (by omega); omega)); rw [ln_one_] at HP; have HS := Hd.mk (fun W A c (hW : Below w.heap.size w W) (h2 : NN W A c R) => rless_calls A2 c2 y.natAbs A c R W (H2.out.to hW) h2 hrl (by omega)); have hQl : ln (Q + 1) ≤ 9223372036854775807 := by have := ln_add Q 1; have := ln_word (d := 1) (by omega); omega
  obtain ⟨b2, hb2⟩ : ∃ b, b = decide (y < 0) := ⟨_, rfl⟩; obtain ⟨b3, hb3⟩ : ∃ b, b = decide (x / y < 0) := ⟨_, rfl⟩; rw [← hb2] at hsg ⊢; rw [← hb3] at hsg ⊢; obtain ⟨M, hM⟩ : ∃ M, M = y.natAbs := ⟨_, rfl⟩; rw [← hM] at HD HS l2 hrl ⊢; obtain ⟨N, hN⟩ : ∃ N, N = x.natAbs := ⟨_, rfl⟩; rw [← hN] at HD l1 ⊢; obtain ⟨qq, hq2⟩ : ∃ q2, q2 = Q + 1 := ⟨_, rfl⟩; rw [← hq2] at hsg hQl HP ⊢; obtain ⟨r2, hr2⟩ : ∃ r2, r2 = M - R := ⟨_, rfl⟩; have hr2l : ln r2 ≤ 9223372036854775807 := by have := ln_mono (show r2 ≤ M by omega); omega
  rw [← hr2] at HS ⊢; rw [show (true != b2) = !b2 from by cases b2 <;> rfl] at hsg; have HSG := Hd.mk hsg; clear hx e1 e2 f1 f2 hQ hR hx1 h1 h2 H2 hb2 hb3 hM hN hrl hq2 hr2 hn0 hy hrs hsg; go_enter Tryz.func41, Tryz.ntmps41
  go_wp2_with fail
  obtain ⟨W0, hW0⟩ : ∃ W : World, W = (((w.alloc (.cells #[.bool true, .slice A1 (ln N) c1] 61)).alloc (.cells #[.bool b2, .slice A2 (ln M) c2] 61)).alloc (.cells #[.bool false, .slice none 0 0] 61)).alloc (.cells #[.bool false, .slice none 0 0] 61) := ⟨_, rfl⟩; rw [← hW0]; have HSZ : Hd (w.heap.size + 1 + 1 + 1 + 1 = W0.heap.size) := ⟨by rw [hW0]; simp⟩; obtain ⟨hB0, hB1, hB2, hB3, hBW⟩ := boxes4 hW0; have q0 := hB0.c0; have q1 := hB0.c1; have q2 := hB1.c0; have q3 := hB1.c1; have g0 := hB2.c0; have g1 := hB2.c1; have u0 := hB2.f0; have u1 := hB2.f1; have p0 := hB3.c0; have p1 := hB3.c1; have v0 := hB3.f0; have v1 := hB3.f1; have Q0 := Hd.mk hB0; have Q1 := Hd.mk hB1; have QR := Hd.mk hB2; have QS := Hd.mk hB3; have HW := Hd.mk hBW; have HB : Hd (Below W0.heap.size W0 W0) := ⟨Below.refl _ _⟩; clear hB0 hB1 hB2 hB3 hBW hW0; refine (HD.out _ (bel_then HW.out (by repeat (first | exact HB.out | exact Below.refl _ _ | refine below_alloc ?_ _ | refine below_drewN ?_ _ | refine below_drew ?_ | refine below_set ?_ (by first | exact Nat.le_refl _ | omega | (simp; done) | (simp; omega)) _)))).mono ?_; rintro e w1 ⟨A3, c3, A4, c4, rfl, hn3, hn4, hb⟩; have HN3 := Hd.mk hn3; have HN4 := Hd.mk hn4; clear hn3 hn4; have HB' : Hd (Below W0.heap.size W0 _) := ⟨bel_then (by repeat (first | exact HB.out | exact Below.refl _ _ | refine below_alloc ?_ _ | refine below_drewN ?_ _ | refine below_drew ?_ | refine below_set ?_ (by first | exact Nat.le_refl _ | omega | (simp; done) | (simp; omega)) _)) hb⟩; clear HB; have HB := HB'; clear HB' hb; replace q0 := (Q0.out.to HB.out).c0; replace q1 := (Q0.out.to HB.out).c1; replace q2 := (Q1.out.to HB.out).c0; replace q3 := (Q1.out.to HB.out).c1; replace g0 := (QR.out.to HB.out).c0; replace g1 := (QR.out.to HB.out).c1; replace u0 := (QR.out.to HB.out).f0; replace u1 := (QR.out.to HB.out).f1; replace p0 := (QS.out.to HB.out).c0; replace p1 := (QS.out.to HB.out).c1; replace v0 := (QS.out.to HB.out).f0; replace v1 := (QS.out.to HB.out).f1; go_wp2_with fail
  have hb : Below w1.heap.size w1 (w1.alloc (.cells #[.int .u32 1] 46)) := below_alloc (Below.refl _ _) _; refine (HP.out _ _ _ _ _ (HN3.out.to hb) (nn_one w1 _)).mono ?_; rintro e w2 ⟨A5, c5, rfl, hn5, hb2⟩; have HN5 := Hd.mk hn5; replace hb := bel_then hb hb2; replace HN4 := Hd.mk (HN4.out.to hb); clear hn5 hb2 HN3; have HB' : Hd (Below W0.heap.size W0 _) := ⟨bel_then (by repeat (first | exact HB.out | exact Below.refl _ _ | refine below_alloc ?_ _ | refine below_drewN ?_ _ | refine below_drew ?_ | refine below_set ?_ (by first | exact Nat.le_refl _ | omega | (simp; done) | (simp; omega)) _)) hb⟩; clear HB; have HB := HB'; clear HB' hb; replace q0 := (Q0.out.to HB.out).c0; replace q1 := (Q0.out.to HB.out).c1; replace q2 := (Q1.out.to HB.out).c0; replace q3 := (Q1.out.to HB.out).c1; replace g0 := (QR.out.to HB.out).c0; replace g1 := (QR.out.to HB.out).c1; replace u0 := (QR.out.to HB.out).f0; replace u1 := (QR.out.to HB.out).f1; replace p0 := (QS.out.to HB.out).c0; replace p1 := (QS.out.to HB.out).c1; replace v0 := (QS.out.to HB.out).f0; replace v1 := (QS.out.to HB.out).f1; go_wp2_with fail
  refine (HS.out _ _ _ (bel_then HW.out HB.out) HN4.out).mono ?_; rintro e w3 ⟨A6, c6, rfl, hn6, hb⟩; have HN6 := Hd.mk hn6; replace HN5 := Hd.mk (HN5.out.to hb); clear hn6 HN4; have HB' : Hd (Below W0.heap.size W0 _) := ⟨bel_then (by repeat (first | exact HB.out | exact Below.refl _ _ | refine below_alloc ?_ _ | refine below_drewN ?_ _ | refine below_drew ?_ | refine below_set ?_ (by first | exact Nat.le_refl _ | omega | (simp; done) | (simp; omega)) _)) hb⟩; clear HB; have HB := HB'; clear HB' hb; replace q0 := (Q0.out.to HB.out).c0; replace q1 := (Q0.out.to HB.out).c1; replace q2 := (Q1.out.to HB.out).c0; replace q3 := (Q1.out.to HB.out).c1; replace g0 := (QR.out.to HB.out).c0; replace g1 := (QR.out.to HB.out).c1; replace u0 := (QR.out.to HB.out).f0; replace u1 := (QR.out.to HB.out).f1; replace p0 := (QS.out.to HB.out).c0; replace p1 := (QS.out.to HB.out).c1; replace v0 := (QS.out.to HB.out).f0; replace v1 := (QS.out.to HB.out).f1; go_wp2_with fail
  with_reducible refine (signed_calls (!b2) b3 A5 (ln qq) c5 _ hQl HSG.out).mono ?_
  rintro e w4 ⟨rfl, hb⟩; replace HN5 := Hd.mk (HN5.out.to hb); replace HN6 := Hd.mk (HN6.out.to hb); have HB' : Hd (Below W0.heap.size W0 _) := ⟨bel_then (by repeat (first | exact HB.out | exact Below.refl _ _ | refine below_alloc ?_ _ | refine below_drewN ?_ _ | refine below_drew ?_ | refine below_set ?_ (by first | exact Nat.le_refl _ | omega | (simp; done) | (simp; omega)) _)) hb⟩; clear HB; have HB := HB'; clear HB' hb; replace q0 := (Q0.out.to HB.out).c0; replace q1 := (Q0.out.to HB.out).c1; replace q2 := (Q1.out.to HB.out).c0; replace q3 := (Q1.out.to HB.out).c1; replace g0 := (QR.out.to HB.out).c0; replace g1 := (QR.out.to HB.out).c1; replace u0 := (QR.out.to HB.out).f0; replace u1 := (QR.out.to HB.out).f1; replace p0 := (QS.out.to HB.out).c0; replace p1 := (QS.out.to HB.out).c1; replace v0 := (QS.out.to HB.out).f0; replace v1 := (QS.out.to HB.out).f1; go_wp2_with fail
  with_reducible refine (signed_calls false false A6 (ln r2) c6 _ hr2l rfl).mono ?_
  rintro e w5 ⟨rfl, hb⟩; replace HN5 := Hd.mk (HN5.out.to hb); replace HN6 := Hd.mk (HN6.out.to hb); have HB' : Hd (Below W0.heap.size W0 _) := ⟨bel_then (by repeat (first | exact HB.out | exact Below.refl _ _ | refine below_alloc ?_ _ | refine below_drewN ?_ _ | refine below_drew ?_ | refine below_set ?_ (by first | exact Nat.le_refl _ | omega | (simp; done) | (simp; omega)) _)) hb⟩; clear HB; have HB := HB'; clear HB' hb; replace q0 := (Q0.out.to HB.out).c0; replace q1 := (Q0.out.to HB.out).c1; replace q2 := (Q1.out.to HB.out).c0; replace q3 := (Q1.out.to HB.out).c1; replace g0 := (QR.out.to HB.out).c0; replace g1 := (QR.out.to HB.out).c1; replace u0 := (QR.out.to HB.out).f0; replace u1 := (QR.out.to HB.out).f1; replace p0 := (QS.out.to HB.out).c0; replace p1 := (QS.out.to HB.out).c1; replace v0 := (QS.out.to HB.out).f0; replace v1 := (QS.out.to HB.out).f1; go_wp2_with fail
  obtain ⟨k0, k1, k2, k3, k4, k5, k6⟩ := four_set g0 g1 p0 p1 (show w.heap.size + 1 + 1 ≠ w.heap.size + 1 + 1 + 1 by omega) (.bool b3) (.slice A5 (ln qq) c5) (.bool false) (.slice A6 (ln r2) c6); refine bodyPost_ret (v := .tuple #[.agg #[.bool b3, .slice A5 (ln qq) c5], .agg #[.bool false, .slice A6 (ln r2) c6]]) (by simp [results, Tryz.results41, go_sem, k0, k1, k2, k3]) rfl ?_; exact ⟨_, _, _, _, rfl, (((HN5.out.set_ g0 (by intro t; simp) _).set_ k4 (by intro t; simp) _).set_ k5 (by intro t; simp) _).set_ k6 (by intro t; simp) _, (((HN6.out.set_ g0 (by intro t; simp) _).set_ k4 (by intro t; simp) _).set_ k5 (by intro t; simp) _).set_ k6 (by intro t; simp) _, (by repeat (first | exact bel_then HW.out HB.out | refine below_set ?_ (by first | exact Nat.le_refl _ | omega | (simp; done) | (simp; omega)) _ | refine below_alloc ?_ _ | refine below_drewN ?_ _ | refine below_drew ?_))⟩
 obtain ⟨f1, f2⟩ := e2 hx; rw [f1] at hsg ⊢; rw [f2]; have hQl : ln Q ≤ 9223372036854775807 := by omega
 obtain ⟨b1, hb1⟩ : ∃ b, b = decide (x < 0) := ⟨_, rfl⟩
 have hbb : b1 = true → ¬ (0 : Int) < (ln R : Int) := fun h => by
  have h1 : x < 0 := by rw [h] at hb1; exact of_decide_eq_true hb1.symm
  have h2 : R = 0 := by
   by_cases h0 : R = 0
   ·exact h0
   exact absurd ⟨h1, h0⟩ hx
  rw [h2, ln_zero]; omega
 obtain ⟨b2, hb2⟩ : ∃ b, b = decide (y < 0) := ⟨_, rfl⟩; obtain ⟨b3, hb3⟩ : ∃ b, b = decide (x / y < 0) := ⟨_, rfl⟩; rw [← hb1, ← hb2] at hsg ⊢; rw [← hb3] at hsg ⊢; obtain ⟨M, hM⟩ : ∃ M, M = y.natAbs := ⟨_, rfl⟩; rw [← hM] at HD l2 hrl ⊢; obtain ⟨N, hN⟩ : ∃ N, N = x.natAbs := ⟨_, rfl⟩; rw [← hN] at HD l1 ⊢; have HSG := Hd.mk hsg; have HBB := Hd.mk hbb; clear hx e1 e2 f1 f2 hQ hR hb1 h1 h2 H2 hb2 hb3 hM hN hrl hn0 hy hrs hsg hbb; go_enter Tryz.func41, Tryz.ntmps41
 go_wp2_with fail
 obtain ⟨W0, hW0⟩ : ∃ W : World, W = (((w.alloc (.cells #[.bool b1, .slice A1 (ln N) c1] 61)).alloc (.cells #[.bool b2, .slice A2 (ln M) c2] 61)).alloc (.cells #[.bool false, .slice none 0 0] 61)).alloc (.cells #[.bool false, .slice none 0 0] 61) := ⟨_, rfl⟩; rw [← hW0]; have HSZ : Hd (w.heap.size + 1 + 1 + 1 + 1 = W0.heap.size) := ⟨by rw [hW0]; simp⟩; obtain ⟨hB0, hB1, hB2, hB3, hBW⟩ := boxes4 hW0; have q0 := hB0.c0; have q1 := hB0.c1; have q2 := hB1.c0; have q3 := hB1.c1; have g0 := hB2.c0; have g1 := hB2.c1; have u0 := hB2.f0; have u1 := hB2.f1; have p0 := hB3.c0; have p1 := hB3.c1; have v0 := hB3.f0; have v1 := hB3.f1; have Q0 := Hd.mk hB0; have Q1 := Hd.mk hB1; have QR := Hd.mk hB2; have QS := Hd.mk hB3; have HW := Hd.mk hBW; have HB : Hd (Below W0.heap.size W0 W0) := ⟨Below.refl _ _⟩; clear hB0 hB1 hB2 hB3 hBW hW0; refine (HD.out _ (bel_then HW.out (by repeat (first | exact HB.out | exact Below.refl _ _ | refine below_alloc ?_ _ | refine below_drewN ?_ _ | refine below_drew ?_ | refine below_set ?_ (by first | exact Nat.le_refl _ | omega | (simp; done) | (simp; omega)) _)))).mono ?_; rintro e w1 ⟨A3, c3, A4, c4, rfl, hn3, hn4, hb⟩; have HN3 := Hd.mk hn3; have HN4 := Hd.mk hn4; clear hn3 hn4; have HB' : Hd (Below W0.heap.size W0 _) := ⟨bel_then (by repeat (first | exact HB.out | exact Below.refl _ _ | refine below_alloc ?_ _ | refine below_drewN ?_ _ | refine below_drew ?_ | refine below_set ?_ (by first | exact Nat.le_refl _ | omega | (simp; done) | (simp; omega)) _)) hb⟩; clear HB; have HB := HB'; clear HB' hb; replace q0 := (Q0.out.to HB.out).c0; replace q1 := (Q0.out.to HB.out).c1; replace q2 := (Q1.out.to HB.out).c0; replace q3 := (Q1.out.to HB.out).c1; replace g0 := (QR.out.to HB.out).c0; replace g1 := (QR.out.to HB.out).c1; replace u0 := (QR.out.to HB.out).f0; replace u1 := (QR.out.to HB.out).f1; replace p0 := (QS.out.to HB.out).c0; replace p1 := (QS.out.to HB.out).c1; replace v0 := (QS.out.to HB.out).f0; replace v1 := (QS.out.to HB.out).f1; rcases b1 with _ | _
 ·have HS2 : (b2 && decide (0 < ln Q)) = b3 := by have := HSG.out; rwa [show (false != b2) = b2 from by cases b2 <;> rfl] at this
  clear HSG; replace HS2 := Hd.mk HS2; go_wp2_with fail
  with_reducible refine (signed_calls b2 b3 A3 (ln Q) c3 _ hQl HS2.out).mono ?_
  rintro e w4 ⟨rfl, hb⟩; replace HN3 := Hd.mk (HN3.out.to hb); replace HN4 := Hd.mk (HN4.out.to hb); have HB' : Hd (Below W0.heap.size W0 _) := ⟨bel_then (by repeat (first | exact HB.out | exact Below.refl _ _ | refine below_alloc ?_ _ | refine below_drewN ?_ _ | refine below_drew ?_ | refine below_set ?_ (by first | exact Nat.le_refl _ | omega | (simp; done) | (simp; omega)) _)) hb⟩; clear HB; have HB := HB'; clear HB' hb; replace q0 := (Q0.out.to HB.out).c0; replace q1 := (Q0.out.to HB.out).c1; replace q2 := (Q1.out.to HB.out).c0; replace q3 := (Q1.out.to HB.out).c1; replace g0 := (QR.out.to HB.out).c0; replace g1 := (QR.out.to HB.out).c1; replace u0 := (QR.out.to HB.out).f0; replace u1 := (QR.out.to HB.out).f1; replace p0 := (QS.out.to HB.out).c0; replace p1 := (QS.out.to HB.out).c1; replace v0 := (QS.out.to HB.out).f0; replace v1 := (QS.out.to HB.out).f1; go_wp2_with fail
  with_reducible refine (signed_calls false false A4 (ln R) c4 _ hlrn rfl).mono ?_
  rintro e w5 ⟨rfl, hb⟩; replace HN3 := Hd.mk (HN3.out.to hb); replace HN4 := Hd.mk (HN4.out.to hb); have HB' : Hd (Below W0.heap.size W0 _) := ⟨bel_then (by repeat (first | exact HB.out | exact Below.refl _ _ | refine below_alloc ?_ _ | refine below_drewN ?_ _ | refine below_drew ?_ | refine below_set ?_ (by first | exact Nat.le_refl _ | omega | (simp; done) | (simp; omega)) _)) hb⟩; clear HB; have HB := HB'; clear HB' hb; replace q0 := (Q0.out.to HB.out).c0; replace q1 := (Q0.out.to HB.out).c1; replace q2 := (Q1.out.to HB.out).c0; replace q3 := (Q1.out.to HB.out).c1; replace g0 := (QR.out.to HB.out).c0; replace g1 := (QR.out.to HB.out).c1; replace u0 := (QR.out.to HB.out).f0; replace u1 := (QR.out.to HB.out).f1; replace p0 := (QS.out.to HB.out).c0; replace p1 := (QS.out.to HB.out).c1; replace v0 := (QS.out.to HB.out).f0; replace v1 := (QS.out.to HB.out).f1; go_wp2_with fail
  obtain ⟨k0, k1, k2, k3, k4, k5, k6⟩ := four_set g0 g1 p0 p1 (show w.heap.size + 1 + 1 ≠ w.heap.size + 1 + 1 + 1 by omega) (.bool b3) (.slice A3 (ln Q) c3) (.bool false) (.slice A4 (ln R) c4); refine bodyPost_ret (v := .tuple #[.agg #[.bool b3, .slice A3 (ln Q) c3], .agg #[.bool false, .slice A4 (ln R) c4]]) (by simp [results, Tryz.results41, go_sem, k0, k1, k2, k3]) rfl ?_; exact ⟨_, _, _, _, rfl, (((HN3.out.set_ g0 (by intro t; simp) _).set_ k4 (by intro t; simp) _).set_ k5 (by intro t; simp) _).set_ k6 (by intro t; simp) _, (((HN4.out.set_ g0 (by intro t; simp) _).set_ k4 (by intro t; simp) _).set_ k5 (by intro t; simp) _).set_ k6 (by intro t; simp) _, (by repeat (first | exact bel_then HW.out HB.out | refine below_set ?_ (by first | exact Nat.le_refl _ | omega | (simp; done) | (simp; omega)) _ | refine below_alloc ?_ _ | refine below_drewN ?_ _ | refine below_drew ?_))⟩
 have hr0 := HBB.out rfl; have HS2 : (!b2 && decide (0 < ln Q)) = b3 := by have := HSG.out; rwa [show (true != b2) = !b2 from by cases b2 <;> rfl] at this
 clear HSG; replace HS2 := Hd.mk HS2; go_wp2_with fail
 with_reducible refine (signed_calls (!b2) b3 A3 (ln Q) c3 _ hQl HS2.out).mono ?_
 rintro e w4 ⟨rfl, hb⟩; replace HN3 := Hd.mk (HN3.out.to hb); replace HN4 := Hd.mk (HN4.out.to hb); have HB' : Hd (Below W0.heap.size W0 _) := ⟨bel_then (by repeat (first | exact HB.out | exact Below.refl _ _ | refine below_alloc ?_ _ | refine below_drewN ?_ _ | refine below_drew ?_ | refine below_set ?_ (by first | exact Nat.le_refl _ | omega | (simp; done) | (simp; omega)) _)) hb⟩; clear HB; have HB := HB'; clear HB' hb; replace q0 := (Q0.out.to HB.out).c0; replace q1 := (Q0.out.to HB.out).c1; replace q2 := (Q1.out.to HB.out).c0; replace q3 := (Q1.out.to HB.out).c1; replace g0 := (QR.out.to HB.out).c0; replace g1 := (QR.out.to HB.out).c1; replace u0 := (QR.out.to HB.out).f0; replace u1 := (QR.out.to HB.out).f1; replace p0 := (QS.out.to HB.out).c0; replace p1 := (QS.out.to HB.out).c1; replace v0 := (QS.out.to HB.out).f0; replace v1 := (QS.out.to HB.out).f1; go_wp2_with fail
 with_reducible refine (signed_calls false false A4 (ln R) c4 _ hlrn rfl).mono ?_
 rintro e w5 ⟨rfl, hb⟩; replace HN3 := Hd.mk (HN3.out.to hb); replace HN4 := Hd.mk (HN4.out.to hb); have HB' : Hd (Below W0.heap.size W0 _) := ⟨bel_then (by repeat (first | exact HB.out | exact Below.refl _ _ | refine below_alloc ?_ _ | refine below_drewN ?_ _ | refine below_drew ?_ | refine below_set ?_ (by first | exact Nat.le_refl _ | omega | (simp; done) | (simp; omega)) _)) hb⟩; clear HB; have HB := HB'; clear HB' hb; replace q0 := (Q0.out.to HB.out).c0; replace q1 := (Q0.out.to HB.out).c1; replace q2 := (Q1.out.to HB.out).c0; replace q3 := (Q1.out.to HB.out).c1; replace g0 := (QR.out.to HB.out).c0; replace g1 := (QR.out.to HB.out).c1; replace u0 := (QR.out.to HB.out).f0; replace u1 := (QR.out.to HB.out).f1; replace p0 := (QS.out.to HB.out).c0; replace p1 := (QS.out.to HB.out).c1; replace v0 := (QS.out.to HB.out).f0; replace v1 := (QS.out.to HB.out).f1; go_wp2_with fail
 obtain ⟨k0, k1, k2, k3, k4, k5, k6⟩ := four_set g0 g1 p0 p1 (show w.heap.size + 1 + 1 ≠ w.heap.size + 1 + 1 + 1 by omega) (.bool b3) (.slice A3 (ln Q) c3) (.bool false) (.slice A4 (ln R) c4); refine bodyPost_ret (v := .tuple #[.agg #[.bool b3, .slice A3 (ln Q) c3], .agg #[.bool false, .slice A4 (ln R) c4]]) (by simp [results, Tryz.results41, go_sem, k0, k1, k2, k3]) rfl ?_; exact ⟨_, _, _, _, rfl, (((HN3.out.set_ g0 (by intro t; simp) _).set_ k4 (by intro t; simp) _).set_ k5 (by intro t; simp) _).set_ k6 (by intro t; simp) _, (((HN4.out.set_ g0 (by intro t; simp) _).set_ k4 (by intro t; simp) _).set_ k5 (by intro t; simp) _).set_ k6 (by intro t; simp) _, (by repeat (first | exact bel_then HW.out HB.out | refine below_set ?_ (by first | exact Nat.le_refl _ | omega | (simp; done) | (simp; omega)) _ | refine below_alloc ?_ _ | refine below_drewN ?_ _ | refine below_drew ?_))⟩
end Go.Proofs.YtdfhhceboacdcaaGreatDoor
