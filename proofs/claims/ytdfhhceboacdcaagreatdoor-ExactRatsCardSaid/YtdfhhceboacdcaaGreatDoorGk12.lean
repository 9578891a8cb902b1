/- Part 12 of the texts behind this claim. -/
import Derived.OrdersHeld
import Derived.BigCall
import Derived.Test.YtdfhhceboacdcaaGreatDoorGk1
import Derived.Test.YtdfhhceboacdcaaGreatDoorGk5
import Derived.Test.YtdfhhceboacdcaaGreatDoorGk8
set_option linter.unusedVariables false
set_option linter.unusedSimpArgs false
namespace Go.Proofs.YtdfhhceboacdcaaGreatDoor
open Go.RowKit
section
variable {P : Program} {ops : Array Oper} {Q : Exit → Act → World → Prop} {md : Region.Mode}
theorem count_set : ∀ (l : List Bool) (i : Nat), l[i]? = some false → (l.set i true).count false + 1 = l.count false
 | [], i, h => by simp at h
 | b :: l, 0, h => by
  simp at h; subst h; simp
 | b :: l, i + 1, h => by
  have := count_set l i (by simpa using h); cases b <;> simp at this ⊢ <;> omega
theorem ready_get {L : Array Bool} (hsz : L.size = ops.size) {i : Nat} (h : i ∈ Region.ready md ops L) : L.toList[i]? = some false := by
 obtain ⟨h0, o, ho, _⟩ := mem_ready.1 h; have hlt : i < L.size := by rw [hsz]; exact (Array.getElem?_eq_some_iff.1 ho).1
 simp [hlt] at h0 ⊢; exact h0
def edgesOf (ops : Array Oper) (k : Nat) : List Nat := match ops[k]? with
 | none => []
 | some o => (o.after.toList.filter (fun e => Region.binds .any e)).map (fun e => e.on)
def clos (ops : Array Oper) : Nat → List Nat → List Nat
 | 0, S => S
 | t + 1, S => clos ops t (S ++ (S.flatMap (edgesOf ops)).filter (fun j => !S.contains j))
theorem edgesOf_listed {L : Array Bool} {k : Nat} {o : Oper} (ho : ops[k]? = some o) (h : ∀ e ∈ o.after, Region.binds .any e = true → L.getD e.on false = true) : ∀ j ∈ edgesOf ops k, L.getD j false = true := by
 intro j hj; unfold edgesOf at hj; rw [ho] at hj; simp only [List.mem_map, List.mem_filter] at hj; obtain ⟨e, ⟨he, hb⟩, rfl⟩ := hj; exact h e (by simpa using he) hb
def Closed (ops : Array Oper) (L : Array Bool) : Prop := ∀ k o, ops[k]? = some o → L.getD k false = true → ∀ e ∈ o.after, Region.binds .any e = true → L.getD e.on false = true
theorem clos_listed {L : Array Bool} (hc : Closed ops L) : ∀ t S, (∀ j ∈ S, L.getD j false = true) → ∀ j ∈ clos ops t S, L.getD j false = true
 | 0, S, h => h
 | t + 1, S, h => clos_listed hc t _ (fun j hj => by
  rcases List.mem_append.1 hj with h1 | h1
  ·exact h j h1
  obtain ⟨k, hk, hkj⟩ := List.mem_flatMap.1 (List.mem_filter.1 h1).1
  cases ho : ops[k]? with
  | none => unfold edgesOf at hkj; rw [ho] at hkj; cases hkj
  | some o => exact edgesOf_listed ho (hc k o ho (h k hk)) j hkj)
def waitedL (ops : Array Oper) (L : Array Bool) (i : Nat) : Prop := ∃ k, L.getD k false = true ∧ i ∈ edgesOf ops k
def SL (ops : Array Oper) (E : List Nat) (C : Nat → World → Prop) (L : Array Bool) (w : World) : Prop := ∀ i ∈ E, ¬ waitedL ops L i → C i w
def wpAnyS (P : Program) (ops : Array Oper) (Q : Exit → Act → World → Prop) (E : List Nat) (C : Nat → World → Prop) : Nat → Array Bool → Act → World → Prop
 | 0, L, a, w => Region.ready .any ops L = [] ∧ Q .normal a w
 | n + 1, L, a, w => (Region.ready .any ops L = [] → Q .normal a w) ∧ ∀ i ∈ Region.ready .any ops L, wpOp P ops Q i (fun a' w' => SL ops E C (L.setIfInBounds i true) w' ∧ wpAnyS P ops Q E C n (L.setIfInBounds i true) a' w') a w
theorem wpAny_of_S {E : List Nat} {C : Nat → World → Prop} : ∀ n L a w, wpAnyS P ops Q E C n L a w → wpAny P .any ops Q n L a w
 | 0, _, _, _, h => h
 | n + 1, _, _, _, h => ⟨h.1, fun i hi => wpOp_mono (fun a' w' h' => wpAny_of_S n _ a' w' h'.2) (h.2 i hi)⟩
theorem getD_conv {L : Array Bool} {i : Nat} (h : i < L.size) (a b : Bool) : L.getD i a = L.getD i b := by simp [h]
theorem set_getD {L : Array Bool} {i j : Nat} (d : Bool) (hi : i < L.size) : (L.setIfInBounds i true).getD j d = if j = i then true else L.getD j d := by
 by_cases h : j = i
 ·subst h; simp [hi]
 rw [if_neg h, Go.getD_set_ne d (Ne.symm h)]
theorem ready_lt {L : Array Bool} {i : Nat} (hsz : L.size = ops.size) (h : i ∈ Region.ready .any ops L) : i < L.size := by
 obtain ⟨_, o, ho, _⟩ := mem_ready.1 h; rw [hsz]; exact (Array.getElem?_eq_some_iff.1 ho).1
theorem waited_set {L : Array Bool} {i j : Nat} (hj : j < L.size) : waitedL ops (L.setIfInBounds j true) i ↔ waitedL ops L i ∨ i ∈ edgesOf ops j := by
 constructor
 ·rintro ⟨k, hk, hi⟩; rw [set_getD _ hj] at hk; split at hk
  ·next h => subst h; exact .inr hi
  exact .inl ⟨k, hk, hi⟩
 rintro (⟨k, hk, hi⟩ | hi)
 ·refine ⟨k, ?_, hi⟩; rw [set_getD _ hj]; split
  ·rfl
  exact hk
 exact ⟨j, by rw [set_getD _ hj, if_pos rfl], hi⟩
theorem not_edge {i j : Nat} {oj : Oper} (hoj : ops[j]? = some oj) (h : ∀ e ∈ oj.after, Region.binds .any e = true → e.on ≠ i) : i ∉ edgesOf ops j := by
 intro hi; unfold edgesOf at hi; rw [hoj] at hi; simp only [List.mem_map, List.mem_filter] at hi; obtain ⟨e, ⟨he, hb⟩, heq⟩ := hi; exact h e (by simpa using he) hb heq
theorem wpAnyS_first {E : List Nat} {C : Nat → World → Prop} {i : Nat} {oi : Oper} {v : Value} (hi : ops[i]? = some oi) (hsel : ∀ (j : Nat) (o : Oper) cs b, ops[j]? = some o → o.op ≠ .select cs b)
  (hQ : ∀ c a w, Q (.panic c) (a.put oi.dst v) w → Q (.panic c) a w) (hiE : i ∈ E) (hself : i ∉ edgesOf ops i) (hCt : ∀ j ∈ E, j ∈ edgesOf ops i → ∀ w, C j w) :
  ∀ (n : Nat) (L : Array Bool) (a : Act) (w : World), L.size = ops.size →
   (∀ j oj, ops[j]? = some oj → j ≠ i → L.getD j true = false → (∀ e ∈ oj.after, Region.binds .any e = true → e.on ≠ i) → oi.apart ops oj = true) →
   i ∈ Region.ready .any ops L → ¬ waitedL ops L i → YieldsIf P ops (C i) oi v a → C i w → SL ops E C (L.setIfInBounds i true) w →
   wpAnyS P ops Q E C n (L.setIfInBounds i true) (a.put oi.dst v) w → wpAnyS P ops Q E C (n + 1) L a w := by
 intro n
 induction n with
 | zero =>
  intro L a w hsz _ hr hnw hy hC hS H; refine ⟨fun h => (by rw [h] at hr; cases hr), fun j hj => ?_⟩; by_cases hji : j = i
  ·subst hji; exact hy.wpOp hi hC ⟨hS, H⟩
  have := ready_mono hj hji; rw [H.1] at this; cases this
 | succ n ih =>
  intro L a w hsz hfree hr hnw hy hC hS H; refine ⟨fun h => (by rw [h] at hr; cases hr), fun j hj => ?_⟩; by_cases hji : j = i
  ·subst hji; exact hy.wpOp hi hC ⟨hS, H⟩
  have h1 := H.2 j (ready_mono hj hji); obtain ⟨hjun, oj, hoj, hall⟩ := mem_ready.1 hj; have hil := ready_lt hsz hr; have hjl := ready_lt hsz hj
  have hnot : ∀ e ∈ oj.after, Region.binds .any e = true → e.on ≠ i := fun e he hb heq => by
   have h1 := hall e he hb; have h0 := (mem_ready.1 hr).1; rw [heq, getD_conv hil false true, h0] at h1; cases h1
  have h2 := wpOp_putIf hoj (hfree j oj hoj hji hjun hnot) (fun cs b => hsel i oi cs b hi) (fun cs b => hsel j oj cs b hoj) hQ hy h1
  have hfree' : ∀ k ok, ops[k]? = some ok → k ≠ i → (L.setIfInBounds j true).getD k true = false →
    (∀ e ∈ ok.after, Region.binds .any e = true → e.on ≠ i) → oi.apart ops ok = true := fun k ok hk hki hun hno => by
   refine hfree k ok hk hki ?_ hno; by_cases hjk : j = k
   ·subst hjk; exact hjun
   rw [Go.getD_set_ne true hjk] at hun; exact hun
  refine wpOp_mono (fun a' w' h3 => ?_) h2; obtain ⟨hy', hS', H'⟩ := h3
  have hnwj : ¬ waitedL ops (L.setIfInBounds j true) i := fun h => by
   rcases (waited_set hjl).1 h with h | h
   ·exact hnw h
   exact not_edge hoj hnot h
  have hCi : C i w' := by
   refine hS' i hiE (fun h => ?_); rw [Array.setIfInBounds_comm _ _ (Ne.symm hji)] at h; rcases (waited_set (by simpa using hil)).1 h with h | h
   ·exact hnwj h
   exact hself h
  refine ⟨fun k hk hkw => ?_, ih (L.setIfInBounds j true) a' w' (by simpa using hsz) hfree' (ready_mono hr (Ne.symm hji)) hnwj hy' hCi ?_ ?_⟩
  ·by_cases hki : k ∈ edgesOf ops i
   ·exact hCt k hk hki w'
   refine hS' k hk (fun h => ?_); rw [Array.setIfInBounds_comm _ _ (Ne.symm hji)] at h; rcases (waited_set (by simpa using hil)).1 h with h | h
   ·exact hkw h
   exact hki h
  ·rw [Array.setIfInBounds_comm _ _ hji]; exact hS'
  rw [Array.setIfInBounds_comm _ _ hji]; exact H'
theorem wpAny_inv (E : List Nat) (C : Nat → World → Prop) (hns : Region.noSelect ops = true)
  (hfree : ∀ i ∈ E, ∀ oi, ops[i]? = some oi → ∀ (j : Nat) (oj : Oper), ops[j]? = some oj → j ≠ i → (∀ e ∈ oi.after, Region.binds .any e = true → e.on ≠ j) → (∀ e ∈ oj.after, Region.binds .any e = true → e.on ≠ i) → oi.apart ops oj = true)
  (hself : ∀ i ∈ E, i ∉ edgesOf ops i) (hCt : ∀ i ∈ E, ∀ j ∈ E, j ∈ edgesOf ops i → ∀ w, C j w)
  (hQ : ∀ d v c a w, Q (.panic c) (a.put d v) w → Q (.panic c) a w)
  (J : Array Bool → Act → World → Prop) (hsz : ∀ L a w, J L a w → L.size = ops.size) (hcl : ∀ L a w, J L a w → Closed ops L) (hJS : ∀ L a w, J L a w → SL ops E C L w)
  (hpure : ∀ L a w i o, J L a w → i ∈ E → i ∈ Region.ready .any ops L → ops[i]? = some o → ∃ v, YieldsIf P ops (C i) o v a ∧ C i w ∧ J (L.setIfInBounds i true) (a.put o.dst v) w)
  (hstep : ∀ L a w i, J L a w → (∀ e ∈ E, e ∉ Region.ready .any ops L) → i ∈ Region.ready .any ops L → wpOp P ops Q i (J (L.setIfInBounds i true)) a w)
  (hend : ∀ L a w, J L a w → Region.ready .any ops L = [] → Q .normal a w) :
  ∀ n L a w, L.toList.count false ≤ n → J L a w → wpAnyS P ops Q E C n L a w := by
 intro n
 induction n with
 | zero =>
  intro L a w hc hJ
  have hr : Region.ready .any ops L = [] := by
   rcases hrr : Region.ready .any ops L with _ | ⟨i, rs⟩
   ·rfl
   have hi : i ∈ Region.ready .any ops L := by rw [hrr]; exact List.mem_cons_self
   have h1 := ready_get (hsz _ _ _ hJ) hi; have h2 : 0 < L.toList.count false := List.count_pos_iff.2 (List.mem_of_getElem? h1); omega
  exact ⟨hr, hend _ _ _ hJ hr⟩
 | succ n ih =>
  intro L a w hc hJ
  have hnext : ∀ i, i ∈ Region.ready .any ops L → (L.setIfInBounds i true).toList.count false ≤ n := by
   intro i hi; have := count_set L.toList i (ready_get (hsz _ _ _ hJ) hi); simp only [Array.toList_setIfInBounds]; omega
  by_cases hE : ∃ e ∈ E, e ∈ Region.ready .any ops L
  ·obtain ⟨e, he, hr⟩ := hE; obtain ⟨hun0, o, ho, hall⟩ := mem_ready.1 hr; obtain ⟨v, hy, hC, hJ'⟩ := hpure L a w e o hJ he hr ho; have hel := ready_lt (hsz _ _ _ hJ) hr
   have hnw : ¬ waitedL ops L e := by
    rintro ⟨k, hk, hke⟩
    cases hok : ops[k]? with
    | none => unfold edgesOf at hke; rw [hok] at hke; cases hke
    | some ok =>
     have := edgesOf_listed hok (hcl _ _ _ hJ k ok hok hk) e hke; rw [getD_conv hel false true, hun0] at this; cases this
   exact wpAnyS_first ho (Region.noSelect_spec hns) (fun c a w h => hQ _ _ _ _ _ h) he (hself e he) (hCt e he) n L a w (hsz _ _ _ hJ) (fun j oj hj hne hun hno => hfree e he o ho j oj hj hne (fun f hf hb heq => by
    have h1 := hall f hf hb; have h2 : j < L.size := by have := (Array.getElem?_eq_some_iff.1 hj).1; have := hsz _ _ _ hJ; omega
    rw [heq] at h1; rw [getD_conv h2 true false, h1] at hun
    cases hun) hno) hr hnw hy hC (hJS _ _ _ hJ') (ih _ _ _ (hnext e hr) hJ')
  refine ⟨fun h => hend _ _ _ hJ h, fun i hi => wpOp_mono (fun a' w' h => ⟨hJS _ _ _ h, ih _ _ _ (hnext i hi) h⟩) (hstep L a w i hJ (fun e he hr => hE ⟨e, he, hr⟩) hi)⟩
def phaseB (ops : Array Oper) (n1 : Nat) (E : List Nat) : Bool :=
 (List.range ops.size).all (fun i => match ops[i]? with
  | none => true
  | some o => o.after.toList.all (fun e => !Region.binds .any e || decide (e.on < i)) &&
   (decide (i ≤ n1) || o.after.toList.any (fun e => Region.binds .any e && decide (e.on + 1 = i))) &&
   (!decide (i = n1) || (List.range n1).all (fun j => (clos ops 6 (edgesOf ops n1)).contains j || (E.contains j && (edgesOf ops j).all (fun k => (clos ops 6 (edgesOf ops n1)).contains k)))))
def freeB (ops : Array Oper) (E : List Nat) : Bool :=
 E.all (fun i => match ops[i]? with
  | none => true
  | some oi => (List.range ops.size).all (fun j => decide (j = i) || match ops[j]? with
   | none => true
   | some oj => oi.after.toList.any (fun e => Region.binds .any e && decide (e.on = j)) || (oj.after.toList.any (fun e => Region.binds .any e && decide (e.on = i)) || oi.apart ops oj)))
theorem freeB_spec {E : List Nat} (h : freeB ops E = true) : ∀ i ∈ E, ∀ oi, ops[i]? = some oi → ∀ (j : Nat) (oj : Oper), ops[j]? = some oj → j ≠ i → (∀ e ∈ oi.after, Region.binds .any e = true → e.on ≠ j) → (∀ e ∈ oj.after, Region.binds .any e = true → e.on ≠ i) → oi.apart ops oj = true := by
 intro i hi oi ho j oj hj hne hnj hno; unfold freeB at h; rw [List.all_eq_true] at h; have h1 := h i hi; rw [ho] at h1; simp only [List.all_eq_true, List.mem_range] at h1; have h2 := h1 j (Array.getElem?_eq_some_iff.1 hj).1; rw [hj] at h2; simp only [Bool.or_eq_true, decide_eq_true_eq, List.any_eq_true, Bool.and_eq_true] at h2; rcases h2 with h2 | ⟨e, he, hb, heq⟩ | ⟨e, he, hb, heq⟩ | h2
 ·exact absurd h2 hne
 ·exact absurd heq (hnj e (by simpa using he) hb)
 ·exact absurd heq (hno e (by simpa using he) hb)
 exact h2
theorem phaseB_back {n1 : Nat} {E : List Nat} (h : phaseB ops n1 E = true) {i : Nat} {o : Oper} (ho : ops[i]? = some o) :
  (∀ e ∈ o.after, Region.binds .any e = true → e.on < i) ∧ (n1 < i → ∃ e ∈ o.after, Region.binds .any e = true ∧ e.on + 1 = i) ∧
  (i = n1 → ∀ j, j < n1 → j ∈ clos ops 6 (edgesOf ops n1) ∨ (j ∈ E ∧ ∀ k ∈ edgesOf ops j, k ∈ clos ops 6 (edgesOf ops n1))) := by
 unfold phaseB at h; rw [List.all_eq_true] at h; have h1 := h i (List.mem_range.2 (Array.getElem?_eq_some_iff.1 ho).1); rw [ho] at h1; simp only [Bool.and_eq_true, Bool.or_eq_true, List.all_eq_true, List.any_eq_true, decide_eq_true_eq, Bool.not_eq_true', decide_eq_false_iff_not, List.mem_range, List.contains_iff_mem] at h1; obtain ⟨⟨ha, hb⟩, hc⟩ := h1; refine ⟨fun e he hbd => ?_, fun hn => ?_, fun hi j hj => ?_⟩
 ·rcases ha e (by simpa using he) with h | h
  ·rw [hbd] at h; cases h
  exact h
 ·rcases hb with h | ⟨e, he, h2, h3⟩
  ·omega
  exact ⟨e, by simpa using he, h2, h3⟩
 rcases hc with h | h
 ·exact absurd hi h
 exact h j hj
theorem rep_getD (n i : Nat) : (Array.replicate n false).getD i false = false := by
 simp only [Array.getD_eq_getD_getElem?, Array.getElem?_replicate]; split <;> rfl
def lateAt (ops : Array Oper) (E : List Nat) (k : Nat) : List Nat := E.filter (fun i => !(List.range k).any (fun j => (edgesOf ops j).contains i))
def SK (ops : Array Oper) (E : List Nat) (C : Nat → World → Prop) (k : Nat) (w : World) : Prop := ∀ i ∈ lateAt ops E k, C i w
def wpListS (P : Program) (ops : Array Oper) (Q : Exit → Act → World → Prop) (E : List Nat) (C : Nat → World → Prop) : Nat → List Oper → Act → World → Prop
 | _, [], a, w => Q .normal a w
 | k, o :: rest, a, w =>
  if Region.wanted o (yielded ops a.tmps) then o.wp P a w (fun a' w' => SK ops E C (k + 1) w' ∧ wpListS P ops Q E C (k + 1) rest a' w') Q ∨ (o.asks P a w ∧ LetsOut Q)
  else SK ops E C (k + 1) w ∧ wpListS P ops Q E C (k + 1) rest (a.put o.dst undef) w
theorem lateAt_succ {E : List Nat} {k i : Nat} (h : i ∈ lateAt ops E (k + 1)) : i ∈ lateAt ops E k := by
 unfold lateAt at *; rw [List.mem_filter] at *; refine ⟨h.1, ?_⟩; have h2 := h.2; simp only [Bool.not_eq_true', List.any_eq_false, List.mem_range] at h2 ⊢; exact fun j hj => h2 j (by omega)
theorem wpListS_plain {E : List Nat} {C : Nat → World → Prop} : ∀ (l : List Oper) (k : Nat) (a : Act) (w : World), (∀ i ∈ lateAt ops E (k + 1), ∀ w, C i w) → wpList P ops Q l a w → wpListS P ops Q E C k l a w
 | [], _, _, _, _, h => h
 | o :: l, k, a, w, hC, h => by
  have hK : ∀ w, SK ops E C (k + 1) w := fun w i hi => hC i hi w
  have hn : ∀ a w, wpList P ops Q l a w → SK ops E C (k + 1) w ∧ wpListS P ops Q E C (k + 1) l a w := fun a w h => ⟨hK w, wpListS_plain l (k + 1) a w (fun i hi => hC i (lateAt_succ hi)) h⟩
  unfold wpListS; unfold wpList at h; split
  ·next h1 =>
   rw [if_pos h1] at h; exact h.imp (Oper.wp_mono hn) (fun h => h)
  next h1 =>
  rw [if_neg h1] at h; exact hn _ _ h
theorem wp_region_phase {id n1 : Nat} {l : List Oper} {a0 : Act} {w0 : World} (E : List Nat) (C : Nat → World → Prop) (hm : P.follows .mixedOrders = true) (hns : Region.noSelect l.toArray = true) (hB : phaseB l.toArray n1 E = true) (hF : freeB l.toArray E = true) (hE : ∀ i ∈ E, i < n1) (hCt : ∀ i ∈ E, ∀ j ∈ E, j ∈ edgesOf l.toArray i → ∀ w, C j w) (hn : n1 ≤ l.length)
    (hQ : ∀ d v c a w, Q (.panic c) (a.put d v) w → Q (.panic c) a w)
    (I : Array Bool → Act → World → Prop) (h0 : I (Array.replicate l.length false) a0 w0.drew) (hIC : ∀ L a w, I L a w → ∀ i ∈ E, C i w)
    (hpure : ∀ L a w i o, I L a w → i ∈ E → i ∈ Region.ready .any l.toArray L → l[i]? = some o → ∃ v, YieldsIf P l.toArray (C i) o v a ∧ I (L.setIfInBounds i true) (a.put o.dst v) w)
    (hstep : ∀ L a w i, I L a w → i < n1 → i ∉ E → i ∈ Region.ready .any l.toArray L → wpOp P l.toArray Q i (I (L.setIfInBounds i true)) a w)
    (hend : ∀ L a w, I L a w → (∀ i, i < n1 → L.getD i false = true) → wpListS P l.toArray Q E C n1 (l.drop n1) a w) :
    (Code.region id l.toArray true).wp P Q a0 w0 := by
  refine wp_region_any hm ?_; have hrep : (Array.replicate l.toArray.size false) = Array.replicate l.length false := by simp
  rw [hrep]
  let J : Array Bool → Act → World → Prop := fun L a w => L.size = l.length ∧ Closed l.toArray L ∧
    ((I L a w ∧ ∀ i, n1 ≤ i → i < l.length → L.getD i true = false) ∨
     (∃ m, n1 + m ≤ l.length ∧ (∀ i, i < n1 + m → L.getD i false = true) ∧ (∀ i, n1 + m ≤ i → i < l.length → L.getD i true = false) ∧ SK l.toArray E C (n1 + m) w ∧ wpListS P l.toArray Q E C (n1 + m) (l.drop (n1 + m)) a w))
  have hlen : l.toArray.size = l.length := by simp
  have hclo : ∀ (L : Array Bool) i, L.size = l.length → Closed l.toArray L → i ∈ Region.ready .any l.toArray L → Closed l.toArray (L.setIfInBounds i true) := by
    intro L i hsz hc hi k o ho hk e he hb; obtain ⟨_, oi, hoi, hall⟩ := mem_ready.1 hi; have hil : i < L.size := by have := (Array.getElem?_eq_some_iff.1 hoi).1; simp at this; omega
    have hL : L.getD e.on false = true := by
      rw [set_getD _ hil] at hk; split at hk
      · next h => subst h; have : oi = o := by rw [hoi] at ho; exact Option.some.inj ho
                  subst this; exact hall e he hb
      exact hc k o ho hk e he hb
    rw [set_getD _ hil]; split
    · rfl
    exact hL
  -- a state in which all of the first phase have come up
  have hseq : ∀ L a w m i, L.size = l.length → Closed l.toArray L → n1 + m ≤ l.length → (∀ i, i < n1 + m → L.getD i false = true) → (∀ i, n1 + m ≤ i → i < l.length → L.getD i true = false) → SK l.toArray E C (n1 + m) w → wpListS P l.toArray Q E C (n1 + m) (l.drop (n1 + m)) a w →
      i ∈ Region.ready .any l.toArray L → wpOp P l.toArray Q i (J (L.setIfInBounds i true)) a w := by
    intro L a w m i hsz hcl hml hlo hhi hsk hw hi; obtain ⟨hi0, o, ho, hall⟩ := mem_ready.1 hi; have hil : i < l.length := by have := (Array.getElem?_eq_some_iff.1 ho).1; simpa using this
    have hige : n1 + m ≤ i := by
      rcases Nat.lt_or_ge i (n1 + m) with h | h
      · have := hlo i h; rw [getD_conv (by omega) false true, hi0] at this; cases this
      exact h
    have hie : i = n1 + m := by
      rcases Nat.lt_or_ge (n1 + m) i with h | h
      · obtain ⟨e, he, hb, heq⟩ := (phaseB_back hB ho).2.1 (by omega); have h1 := hall e he hb; have h2 := hhi e.on (by omega) (by omega); rw [getD_conv (by omega) true false, h1] at h2; cases h2
      omega
    subst hie; have ho' : l[n1 + m]? = some o := by simpa using ho
    have hd : l.drop (n1 + m) = o :: l.drop (n1 + m + 1) := by
      rw [List.drop_eq_getElem_cons (by omega)]; congr 1
      rw [List.getElem?_eq_getElem hil] at ho'; exact Option.some.inj ho'
    rw [hd] at hw
    have hJ : ∀ a w, (SK l.toArray E C (n1 + m + 1) w ∧ wpListS P l.toArray Q E C (n1 + m + 1) (l.drop (n1 + m + 1)) a w) → J (L.setIfInBounds (n1 + m) true) a w := by
      intro a w h; refine ⟨by simp [hsz], hclo L _ hsz hcl hi, .inr ⟨m + 1, by omega, fun i hi => ?_, fun i hi hl => ?_, h.1, h.2⟩⟩
      · rw [set_getD _ (by omega)]; split
        · rfl
        exact hlo i (by omega)
      rw [set_getD _ (by omega), if_neg (by omega)]; exact hhi i (by omega) hl
    unfold wpOp; rw [ho]; unfold wpListS at hw; simp only; split
    · next h1 =>
      rw [if_pos h1] at hw; exact hw.imp (Oper.wp_mono hJ) (fun h => h)
    next h1 =>
    rw [if_neg h1] at hw; exact hJ _ _ hw
  refine wpAny_of_S _ _ _ _ (wpAny_inv E C hns (freeB_spec hF) (fun i hi h => ?_) hCt hQ J (fun L a w h => by simpa using h.1) (fun L a w h => h.2.1) ?_ ?_ ?_ ?_ _ _ a0 _ ?_ ?_)
  · have hil : i < l.length := by have := hE i hi; omega
    have hoi : l.toArray[i]? = some l[i] := by simp [hil]
    exact not_edge hoi (fun e he hb heq => by have := (phaseB_back hB hoi).1 e he hb; omega) h
  · intro L a w ⟨hsz, hcl, hh⟩ i hi hnw; rcases hh with ⟨hI, hun⟩ | ⟨m, hml, hlo, hhi, hsk, hw⟩
    · exact hIC L a w hI i hi
    refine hsk i (List.mem_filter.2 ⟨hi, ?_⟩); simp only [Bool.not_eq_true', List.any_eq_false, List.mem_range, List.contains_iff_mem]; intro j hj hji; exact hnw ⟨j, hlo j hj, hji⟩
  · intro L a w i o hJ hi hr ho; obtain ⟨hsz, hcl, ⟨hI, hun⟩ | ⟨m, hml, hlo, hhi, hsk, hw⟩⟩ := hJ
    · obtain ⟨v, hy, hI'⟩ := hpure L a w i o hI hi hr (by simpa using ho); refine ⟨v, hy, hIC L a w hI i hi, by simp [hsz], hclo L i hsz hcl hr, .inl ⟨hI', fun j hj hjl => ?_⟩⟩; have := hE i hi; rw [set_getD _ (by omega), if_neg (by omega)]; exact hun j hj hjl
    have h1 := hlo i (by have := hE i hi; omega); have h2 := (mem_ready.1 hr).1; have := hE i hi; rw [getD_conv (by omega) false true, h2] at h1; cases h1
  · intro L a w i hJ hno hr; obtain ⟨hsz, hcl, ⟨hI, hun⟩ | ⟨m, hml, hlo, hhi, hsk, hw⟩⟩ := hJ
    · rcases Nat.lt_or_ge i n1 with hin | hin
      · have hiE : i ∉ E := fun h => hno i h hr
        refine wpOp_mono (fun a' w' h => ?_) (hstep L a w i hI hin hiE hr); refine ⟨by simp [hsz], hclo L i hsz hcl hr, .inl ⟨h, fun j hj hjl => ?_⟩⟩; rw [set_getD _ (by omega), if_neg (by omega)]; exact hun j hj hjl
      obtain ⟨hi0, o, ho, hall⟩ := mem_ready.1 hr; have hil : i < l.length := by have := (Array.getElem?_eq_some_iff.1 ho).1; simpa using this
      have hie : i = n1 := by
        rcases Nat.lt_or_ge n1 i with h | h
        · obtain ⟨e, he, hb, heq⟩ := (phaseB_back hB ho).2.1 h; have h1 := hall e he hb; have h2 := hun e.on (by omega) (by omega); rw [getD_conv (by omega) true false, h1] at h2; cases h2
        omega
      subst hie
      have hlo : ∀ j, j < i → L.getD j false = true := by
        intro j hj; have hS := clos_listed hcl 6 _ (edgesOf_listed ho hall); rcases (phaseB_back hB ho).2.2 rfl j hj with h | ⟨hjE, hf⟩
        · exact hS j h
        cases hL : L.getD j false with
        | true => rfl
        | false =>
          exfalso; have hjl : j < l.length := by omega
          have hp : l.toArray[j]? = some l[j] := by simp [hjl]
          refine hno j hjE (mem_ready.2 ⟨by rw [getD_conv (by omega) true false]; exact hL, l[j], hp, fun f hf' hb => ?_⟩); refine hS _ (hf _ ?_); unfold edgesOf; rw [hp]; simp only [List.mem_map, List.mem_filter]; exact ⟨f, ⟨by simpa using hf', hb⟩, rfl⟩
      exact hseq L a w 0 i hsz hcl (by omega) (fun j hj => hlo j (by omega)) (fun j hj hjl => hun j (by omega) hjl) (fun k hk => hIC L a w hI k (List.mem_filter.1 hk).1) (hend L a w hI hlo) hr
    exact hseq L a w m i hsz hcl hml hlo hhi hsk hw hr
  · intro L a w hJ hr
    have hnr : ∀ i, i < l.length → (∀ j, j < i → L.getD j false = true) → L.getD i true = false → False := by
      intro i hil hlo hi; have : i ∈ Region.ready .any l.toArray L := mem_ready.2 ⟨hi, l[i], by simp [hil], fun e he hb => hlo _ ((phaseB_back hB (show l.toArray[i]? = some l[i] by simp [hil])).1 e he hb)⟩; rw [hr] at this; cases this
    obtain ⟨hsz, hcl, ⟨hI, hun⟩ | ⟨m, hml, hlo, hhi, hsk, hw⟩⟩ := hJ
    · have hall : ∀ i, i < n1 → L.getD i false = true := by
        intro i
        induction i using Nat.strongRecOn with
        | _ i ih =>
          intro hi
          cases hL : L.getD i false with
          | true => rfl
          | false => exact (hnr i (by omega) (fun j hj => ih j hj (by omega)) (by rw [getD_conv (by omega) true false]; exact hL)).elim
      have hle : l.length ≤ n1 := by
        rcases Nat.lt_or_ge n1 l.length with h | h
        · exact (hnr n1 h hall (hun n1 (Nat.le_refl _) h)).elim
        exact h
      have := hend L a w hI hall; rw [List.drop_eq_nil_of_le hle] at this; exact this
    have hle : l.length ≤ n1 + m := by
      rcases Nat.lt_or_ge (n1 + m) l.length with h | h
      · exact (hnr (n1 + m) h hlo (hhi _ (Nat.le_refl _) h)).elim
      exact h
    rw [List.drop_eq_nil_of_le hle] at hw; exact hw
  · simp
  refine ⟨by simp, ?_, .inl ⟨h0, fun i hi hil => by simp [hil]⟩⟩; intro k o _ hk; rw [rep_getD] at hk; cases hk
def putAll (a : Act) (ds : List Nat) (vs : Nat → Value) : Act := ds.foldl (fun a d => a.put (some d) (vs d)) a
theorem PA : (∀ (a : Act) (d : Nat) (ds : List Nat) (vs : Nat → Value), putAll a (d :: ds) vs = putAll (a.put (some d) (vs d)) ds vs) ∧ (∀ (a : Act) (vs : Nat → Value), putAll a [] vs = a) ∧ (∀ (a : Act) (d : Option Nat) (v : Value), a.put d v = match d with | some k => { a with tmps := a.tmps.setIfInBounds k v } | none => a) ∧ (∀ (l : List Value) (i : Nat) (v : Value), l.toArray.setIfInBounds i v = (l.set i v).toArray) ∧ (∀ (x : Value) (l : List Value) (i : Nat) (v : Value), (x :: l).set (i + 1) v = x :: l.set i v) ∧ (∀ (x : Value) (l : List Value) (v : Value), (x :: l).set 0 v = v :: l) ∧ (∀ (x : Oper) (l : List Oper) (i : Nat), (x :: l).drop (i + 1) = l.drop i) ∧ ∀ l : List Oper, l.drop 0 = l := ⟨fun _ _ _ _ => rfl, fun _ _ => rfl, fun _ d _ => by cases d <;> rfl, fun _ _ _ => List.setIfInBounds_toArray .., fun _ _ _ _ => rfl, fun _ _ _ => rfl, fun _ _ _ => rfl, fun _ => rfl⟩
theorem aL {P X Y : Prop} (x : X) (p : P := by exact rfl) : (P ∧ X) ∨ Y := .inl ⟨p, x⟩
theorem aG {A B C X Y : Prop} (b : B) (x : X) (a : A := by exact rfl) : ((A ∧ (B ∨ C)) ∧ X) ∨ Y := .inl ⟨⟨a, .inl b⟩, x⟩
theorem aS {A B C X Y : Prop} (b : B) (a : A := by exact rfl) (x : X := by exact rfl) : Y ∨ ((A ∧ (B ∨ C)) ∧ X) := .inr ⟨⟨a, .inl b⟩, x⟩
theorem putAll_eq {a : Act} : ∀ (ds : List Nat) (b : Act), b.defers = a.defers → b.tmps.size = a.tmps.size → (∀ d ∈ ds, d < a.tmps.size) → (∀ t, t ∉ ds → b.tmps[t]? = a.tmps[t]?) → putAll b ds (fun t => a.eval (.tmp t)) = a
 | [], b, hd, hs, _, h => by
  obtain ⟨bt, bd⟩ := b; obtain ⟨at_, ad⟩ := a; simp only at hd hs h; subst hd; show (⟨bt, bd⟩ : Act) = ⟨at_, bd⟩; congr 1
  apply Array.ext_getElem?; intro t; exact h t (by simp)
 | d :: ds, b, hd, hs, hlt, h => by
  have hdl := hlt d (by simp); refine putAll_eq ds (b.put (some d) (a.eval (.tmp d))) hd (by simp [Act.put, hs]) (fun e he => hlt e (by simp [he])) (fun t ht => ?_); by_cases htd : d = t
  ·subst htd; simp [Act.put, Act.eval, hs, hdl]
  show (b.tmps.setIfInBounds d _)[t]? = _; rw [Array.getElem?_setIfInBounds_ne htd]; exact h t (by simp [ht, Ne.symm htd])
theorem eval_put_same {a : Act} {d : Nat} (h : d < a.tmps.size) (v : Value) : (a.put (some d) v).eval (.tmp d) = v := by
 simp [Act.put, Act.eval, h]
theorem eval_put_other {a : Act} {d t : Nat} (h : d ≠ t) (v : Value) : (a.put (some d) v).eval (.tmp t) = a.eval (.tmp t) := by
 simp [Act.put, Act.eval, Array.getElem?_setIfInBounds_ne h]
def Post (a : Act) (w : World) (d : Nat) (R : Value → World → Prop) : Act → World → Prop := fun a' w' => ∃ v, a' = a.put (some d) v ∧ Below w.heap.size w w' ∧ R v w'
def VarB (l : List Oper) (n1 : Nat) (ds E AL : List Nat) (T : TypeId) (n : Nat) : Bool :=
 decide (ds.length = n1) && decide (n1 ≤ l.length) && ds.all (fun d => decide (d < n)) && decide ds.Nodup && E.all (fun i => decide (i < n1) && !AL.contains i) && AL.all (fun i => decide (i < n1)) &&
 (List.range n1).all (fun i => match l[i]? with | none => false | some o => decide (o.dst = some (ds.getD i 0)) && o.guard.isNone && (!AL.contains i || match o.op with | .alloc t => t == T | _ => false))
def Deps (l : List Oper) (ds AL : List Nat) (V : Nat → Value → World → Prop) (i : Nat) (a : Act) (w : World) : Prop :=
 ∀ j, (((l[i]?).map (fun o => o.after.toList.any (fun e => Region.binds .any e && decide (e.on = j)))).getD false && !AL.contains j) = true → V j (a.eval (.tmp (ds.getD j 0))) w
theorem nodup_ne {ds : List Nat} (h : ds.Nodup) {i j : Nat} (hi : i < ds.length) (hj : j < ds.length) (hne : i ≠ j) : ds.getD i 0 ≠ ds.getD j 0 := by
 simp only [List.getD_eq_getElem?_getD, List.getElem?_eq_getElem hi, List.getElem?_eq_getElem hj, Option.getD_some]; intro he; exact hne ((List.getElem_inj h).1 he)
theorem wp_region_vars {id : Nat} (n1 : Nat) {l : List Oper} {a0 : Act} {w0 : World} (ds E AL : List Nat) (T : TypeId) (z : List Value) (V : Nat → Value → World → Prop) (C : Nat → World → Prop)
  (hm : P.follows .mixedOrders = true) (hns : Region.noSelect l.toArray = true) (hB : phaseB l.toArray n1 E = true) (hF : freeB l.toArray E = true) (hD : VarB l n1 ds E AL T a0.tmps.size = true)
  (hCt : ∀ i ∈ E, ∀ j ∈ E, j ∈ edgesOf l.toArray i → ∀ w, C j w) (hC0 : ∀ i ∈ E, ∀ w, Below w0.heap.size w0 w → C i w)
  (hz : ∀ w : World, (Instr.alloc T true (.tuple #[])).run P w = .ok (.pointer (some ⟨w.heap.size, 0, none⟩)) (w.alloc (.cells z.toArray T)))
  (hQ : ∀ d v c a w, Q (.panic c) (a.put d v) w → Q (.panic c) a w)
  (hV : ∀ i v w w', V i v w → Below w.heap.size w w' → V i v w')
  (hop : ∀ i, i < n1 → AL.contains i = false → ∀ a w, Below w0.heap.size w0 w → (∀ t, ds.contains t = false → a.eval (.tmp t) = a0.eval (.tmp t)) → Deps l ds AL V i a w →
   match l[i]? with | none => True | some o => if E.contains i then ∃ v, (∀ w, C i w → (execOp a.eval o).run P w = .ok (.value v) w) ∧ V i v w else o.wp P a w (Post a w (ds.getD i 0) (V i)) Q)
  (hend : ∀ (vs : Nat → Value) (w : World), Below w0.heap.size w0 w → (∀ i, i < n1 → AL.contains i = false → V i (vs (ds.getD i 0)) w) →
   (∀ i, AL.contains i = true → ∃ g, vs (ds.getD i 0) = .pointer (some ⟨g, 0, none⟩) ∧ w0.heap.size ≤ g ∧ Blk w g T z) → (∀ i j, AL.contains i = true → AL.contains j = true → i ≠ j → vs (ds.getD i 0) ≠ vs (ds.getD j 0)) → wpListS P l.toArray Q E C n1 (l.drop n1) (putAll a0 ds vs) w) :
  (Code.region id l.toArray true).wp P Q a0 w0 := by
 unfold VarB at hD; simp only [Bool.and_eq_true, decide_eq_true_eq, List.all_eq_true, List.mem_range] at hD; obtain ⟨⟨⟨⟨⟨⟨hdl, hnl⟩, hdt⟩, hnd⟩, hEE⟩, hAA⟩, hops⟩ := hD
 have hop1 : ∀ i, i < n1 → ∃ o, l[i]? = some o ∧ o.dst = some (ds.getD i 0) ∧ o.guard = none ∧ (AL.contains i = true → o.op = .alloc T) := by
  intro i hi; have h := hops i hi
  cases ho : l[i]? with
  | none => rw [ho] at h; cases h
  | some o =>
   rw [ho] at h; simp only [Bool.and_eq_true, decide_eq_true_eq, Bool.or_eq_true, Bool.not_eq_true', Option.isNone_iff_eq_none] at h; refine ⟨o, rfl, h.1.1, h.1.2, fun hA => ?_⟩; rcases h.2 with h2 | h2
   ·rw [hA] at h2; cases h2
   revert h2
   cases o.op <;> simp
 have hdi : ∀ i, i < n1 → ds.getD i 0 < a0.tmps.size := by
  intro i hi
  have : ds.getD i 0 ∈ ds := by
   rw [List.getD_eq_getElem?_getD, List.getElem?_eq_getElem (by omega)]; exact List.getElem_mem _
  exact hdt _ this
 let F : Nat → Value → World → Prop := fun i v w => if AL.contains i then ∃ g, v = .pointer (some ⟨g, 0, none⟩) ∧ w0.heap.size ≤ g ∧ Blk w g T z else V i v w
 have hFs : ∀ i v w w', F i v w → Below w.heap.size w w' → F i v w' := by
  intro i v w w' h hb; show if _ then _ else _
  have h' : if _ then _ else _ := h
  split at h'
  ·next hA =>
   rw [if_pos hA]; obtain ⟨g, h1, h2, h3⟩ := h'; exact ⟨g, h1, h2, h3.to hb⟩
  next hA => rw [if_neg hA]; exact hV _ _ _ _ h' hb
 let I : Array Bool → Act → World → Prop := fun L a w => Below w0.heap.size w0 w ∧ L.size = l.length ∧ a.defers = a0.defers ∧ a.tmps.size = a0.tmps.size ∧ (∀ t, t ∉ ds → a0.tmps[t]? = a.tmps[t]?) ∧
  (∀ i, i < n1 → L.getD i false = true → F i (a.eval (.tmp (ds.getD i 0))) w) ∧
  (∀ i j, AL.contains i = true → AL.contains j = true → i ≠ j → L.getD i false = true → L.getD j false = true → a.eval (.tmp (ds.getD i 0)) ≠ a.eval (.tmp (ds.getD j 0)))
 have hAlt : ∀ i, AL.contains i = true → i < n1 := fun i h => hAA i (by simpa using h)
 -- an operation that is no new variable
 have key : ∀ L a w i v w', I L a w → i < n1 → Below w.heap.size w w' → F i v w' → (AL.contains i = true → ∀ j, AL.contains j = true → i ≠ j → L.getD j false = true → v ≠ a.eval (.tmp (ds.getD j 0))) → I (L.setIfInBounds i true) (a.put (some (ds.getD i 0)) v) w' := by
  intro L a w i v w' ⟨hb, hsz, hdf, hts, hot, hf, hne⟩ hi hb' hv hd; refine ⟨below_then hb hb.size hb', by simp [hsz], hdf, by simp [Act.put, hts], fun t ht => ?_, fun j hj hL => ?_, fun j k hj hk hjk hLj hLk => ?_⟩
  ·have : ds.getD i 0 ≠ t := fun e => ht (by rw [← e, List.getD_eq_getElem?_getD, List.getElem?_eq_getElem (by omega)]; exact List.getElem_mem _)
   show _ = (a.tmps.setIfInBounds _ _)[t]?; rw [Array.getElem?_setIfInBounds_ne this]; exact hot t ht
  ·by_cases hij : j = i
   ·subst hij; rw [eval_put_same (by rw [hts]; exact hdi _ hi)]; exact hv
   rw [eval_put_other (nodup_ne hnd (by omega) (by omega) (Ne.symm hij))]; rw [set_getD _ (by omega), if_neg hij] at hL; exact hFs _ _ _ _ (hf j hj hL) hb'
  have hjn := hAlt j hj; have hkn := hAlt k hk; by_cases hji : j = i
  ·subst hji; rw [eval_put_same (by rw [hts]; exact hdi _ hi), eval_put_other (nodup_ne hnd (by omega) (by omega) hjk)]; rw [set_getD _ (by omega), if_neg (Ne.symm hjk)] at hLk; exact hd hj k hk hjk hLk
  by_cases hki : k = i
  ·subst hki; rw [eval_put_same (by rw [hts]; exact hdi _ hi), eval_put_other (nodup_ne hnd (by omega) (by omega) (Ne.symm hji))]; rw [set_getD _ (by omega), if_neg hji] at hLj; exact Ne.symm (hd hk j hj (Ne.symm hjk) hLj)
  rw [eval_put_other (nodup_ne hnd (by omega) (by omega) (Ne.symm hji)), eval_put_other (nodup_ne hnd (by omega) (by omega) (Ne.symm hki))]; rw [set_getD _ (by omega), if_neg hji] at hLj; rw [set_getD _ (by omega), if_neg hki] at hLk; exact hne j k hj hk hjk hLj hLk
 have hpre : ∀ L a w i o, I L a w → i < n1 → i ∈ Region.ready .any l.toArray L → l[i]? = some o → (∀ t, ds.contains t = false → a.eval (.tmp t) = a0.eval (.tmp t)) ∧ Deps l ds AL V i a w := by
  intro L a w i o ⟨hb, hsz, hdf, hts, hot, hf, hne⟩ hi hr ho; obtain ⟨_, o', ho', hall⟩ := mem_ready.1 hr; have : o' = o := by simpa [ho] using ho'.symm
  subst this; refine ⟨fun t ht => ?_, fun j hj => ?_⟩
  ·have := hot t (by simpa using ht); show a.tmps.getD t undef = a0.tmps.getD t undef; simp only [Array.getD_eq_getD_getElem?, this]
  rw [ho] at hj; simp only [Option.map_some, Option.getD_some, Bool.and_eq_true, Bool.not_eq_true', List.any_eq_true, decide_eq_true_eq] at hj; obtain ⟨⟨e, he, hbd, heq⟩, hA⟩ := hj; have hj1 : j < i := by rw [← heq]; exact (phaseB_back hB ho').1 e (by simpa using he) hbd
  have h1 := hf j (by omega) (by rw [← heq]; exact hall e (by simpa using he) hbd); have h2 : if AL.contains j then _ else _ := h1
  rw [if_neg (by rw [hA]; simp)] at h2; exact h2
 refine wp_region_phase (n1 := n1) E C hm hns hB hF (fun i hi => by have := hEE i hi; simp at this; exact this.1) hCt hnl hQ I ?_ (fun L a w h i hi => hC0 i hi w h.1) ?_ ?_ ?_
 ·refine ⟨below_drew (Below.refl _ _), by simp, rfl, rfl, fun _ _ => rfl, fun i hi hL => ?_, fun i j _ _ _ hL _ => ?_⟩
  ·rw [rep_getD] at hL; cases hL
  rw [rep_getD] at hL; cases hL
 ·intro L a w i o hI hi hr ho; have hEi := hEE i hi; simp only [Bool.and_eq_true, decide_eq_true_eq, Bool.not_eq_true'] at hEi; obtain ⟨h1, h2⟩ := hpre L a w i o hI hEi.1 hr ho; have h3 := hop i hEi.1 hEi.2 a w hI.1 h1 h2; rw [ho] at h3; simp only at h3; rw [if_pos (by simpa using hi)] at h3; obtain ⟨v, hy, hv⟩ := h3; obtain ⟨o', ho', hdst, hg, _⟩ := hop1 i hEi.1; have : o' = o := by rw [ho] at ho'; exact (Option.some.inj ho').symm
  subst this; refine ⟨v, .inl ⟨by simp [Region.wanted, hg], hy⟩, ?_⟩; rw [hdst]; exact key L a w i v w hI hEi.1 (Below.refl _ _) (by show if _ then _ else _; rw [if_neg (by rw [hEi.2]; simp)]; exact hv) (fun h => by rw [hEi.2] at h; cases h)
 ·intro L a w i hI hi hE hr; obtain ⟨o, ho, hdst, hg, hal⟩ := hop1 i hi; obtain ⟨h1, h2⟩ := hpre L a w i o hI hi hr ho; unfold wpOp; have ho2 : l.toArray[i]? = some o := by simpa using ho
  rw [ho2]; simp only; rw [if_pos (by simp [Region.wanted, hg])]; refine .inl ?_; by_cases hA : AL.contains i = true
  ·unfold Oper.wp execOp; simp only [hal hA, Sem.run_bind, hz, Result.andThen_ok, Sem.run_pure, Oper.upon, hdst]; refine key L a w i _ _ hI hi (below_alloc (Below.refl _ _) _) ?_ ?_
   ·show if _ then _ else _
    rw [if_pos hA]; exact ⟨_, rfl, hI.1.size, heap_alloc_new _ _⟩
   intro _ j hj hij hL; have h3 : if AL.contains j then _ else _ := hI.2.2.2.2.2.1 j (hAlt j hj) hL
   rw [if_pos hj] at h3; obtain ⟨g, hg1, _, hg2⟩ := h3; rw [hg1]; intro he; have := hg2.lt; injection he with he
   injection he with he
   injection he with he
   omega
  have hA' : AL.contains i = false := by simpa using hA
  have h3 := hop i hi hA' a w hI.1 h1 h2; rw [ho] at h3; simp only at h3; rw [if_neg (by simpa using hE)] at h3; refine Oper.wp_mono (fun a' w' h => ?_) h3; obtain ⟨v, rfl, hb', hv⟩ := h; exact key L a w i v w' hI hi hb' (by show if _ then _ else _; rw [if_neg hA]; exact hv) (fun h => absurd h hA)
 intro L a w hI hall; obtain ⟨hb, hsz, hdf, hts, hot, hf, hne⟩ := hI; have he := putAll_eq (a := a) ds a0 hdf.symm hts.symm (fun d hd => by rw [hts]; exact hdt d hd) hot; rw [← he]; refine hend (fun t => a.eval (.tmp t)) w hb (fun i hi hA => ?_) (fun i hA => ?_) (fun i j hi hj hij => hne i j hi hj hij (hall i (hAlt i hi)) (hall j (hAlt j hj)))
 ·have h3 : if AL.contains i then _ else _ := hf i hi (hall i hi)
  rw [if_neg (by rw [hA]; simp)] at h3; exact h3
 have h3 : if AL.contains i then _ else _ := hf i (hAlt i hA) (hall i (hAlt i hA))
 rw [if_pos hA] at h3; exact h3
end
structure SP where
 p : Value → World → Prop
 st : ∀ v w w', p v w → Below w.heap.size w w' → p v w'
def SP.any : SP := ⟨fun _ _ => True, fun _ _ _ _ _ => trivial⟩
def isV (u : Value) : SP := ⟨fun v _ => v = u, fun _ _ _ h _ => h⟩
abbrev qT : SP := isV (.bool true)
abbrev qF : SP := isV (.bool false)
abbrev qU : SP := isV undef
abbrev qI (x : Int) : SP := isV (.int .i64 x)
def isZ (z : Int) : SP := ⟨fun v w => ∃ A c, v = .agg #[.bool (decide (z < 0)), .slice A (ln z.natAbs) c] ∧ NN w A c z.natAbs, fun v w w' ⟨A, c, h, hn⟩ hb => ⟨A, c, h, hn.to hb⟩⟩
def isN (n : Nat) : SP := ⟨fun v w => ∃ A c, v = .slice A (ln n) c ∧ NN w A c n, fun v w w' ⟨A, c, h, hn⟩ hb => ⟨A, c, h, hn.to hb⟩⟩
def isZZ (q r : Int) : SP := ⟨fun v w => ∃ A c A' c', v = .tuple #[.agg #[.bool (decide (q < 0)), .slice A (ln q.natAbs) c], .agg #[.bool (decide (r < 0)), .slice A' (ln r.natAbs) c']] ∧ NN w A c q.natAbs ∧ NN w A' c' r.natAbs,
 fun v w w' ⟨A, c, A', c', h, h1, h2⟩ hb => ⟨A, c, A', c', h, h1.to hb, h2.to hb⟩⟩
section
variable {P : Program} {Q : Exit → Act → World → Prop} {o : Oper} {a : Act} {w : World} {d : Nat} {R : Value → World → Prop}
theorem op_call {f : Nat} {xs : Array Operand} {ts : Array TypeId} {vs : Array Value} (ho : o.op = .call { callee := .value (.func f), args := xs, argTypes := ts }) (hd : o.dst = some d)
  (hcf : ∀ args w, (callFunc f args).run P w = .ok (.enter f args) w) (hx : xs.map a.eval = vs) (hc : Calls P f vs w (fun e w' => ∃ v, e = .returned v ∧ Below w.heap.size w w' ∧ R v w')) : o.wp P a w (Post a w d R) Q := by
 obtain ⟨dst, op, type, pos, after, guard⟩ := o; simp only at ho hd; subst ho hd hx; unfold Oper.wp; rw [execOp_call_go, hcf]; simp only [Oper.upon, Array.empty_append, Array.append_empty]; refine hc.mono ?_; rintro e w' ⟨v, rfl, hb, hr⟩; exact ⟨v, rfl, hb, hr⟩
theorem op_run {v : Value} (hd : o.dst = some d) (hr : (execOp a.eval o).run P w = .ok (.value v) w) (h : R v w) : o.wp P a w (Post a w d R) Q := by
 unfold Oper.wp; rw [hr]; show Post a w d R (a.put o.dst v) w; rw [hd]; exact ⟨v, rfl, Below.refl _ _, h⟩
theorem op_load {T : TypeId} {x : Operand} {p v : Value} (ho : o.op = .load T x) (hd : o.dst = some d) (hx : a.eval x = p) (hl : (Instr.loadAt T p).run P w = .ok v w) (h : R v w) : o.wp P a w (Post a w d R) Q := by
 refine op_run hd ?_ h; unfold execOp; simp only [ho, hx, Sem.run_bind, hl, Result.andThen_ok, Sem.run_pure]
theorem op_move {x : Operand} {v : Value} (ho : o.op = .move x) (hx : a.eval x = v) (w : World) : (execOp a.eval o).run P w = .ok (.value v) w := by
 unfold execOp; simp only [ho, hx, Sem.run_pure]
theorem op_extract {x : Operand} {vs : Array Value} {i : Nat} {v : Value} (ho : o.op = .extract x i) (hx : a.eval x = .tuple vs) (hv : vs[i]? = some v) (w : World) : (execOp a.eval o).run P w = .ok (.value v) w := by
 unfold execOp; simp only [ho, hx, Instr.extract, hv, Sem.run_bind, Sem.run_pure, Result.andThen_ok]
end
section
variable {w : World} {g : Nat} {x0 x1 : Value}
theorem load_api (h0 : w.cell? ⟨g, 0, none⟩ = some x0) (h1 : w.cell? ⟨g, 1, none⟩ = some x1) : (Instr.loadAt 24 (.pointer (some ⟨g, 0, none⟩))).run Tryz.prog w = .ok (.agg #[x0, x1]) w := by
 simp [go_sem, h0, h1]
theorem alloc_api (w : World) : (Instr.alloc 24 true (.tuple #[])).run Tryz.prog w = .ok (.pointer (some ⟨w.heap.size, 0, none⟩)) (w.alloc (.cells [.bool false, .slice none 0 0].toArray 24)) := by
 simp [go_sem]
theorem alloc_whole (w : World) : (Instr.alloc 51 true (.tuple #[])).run Tryz.prog w = .ok (.pointer (some ⟨w.heap.size, 0, none⟩)) (w.alloc (.cells [.bool false, .slice none 0 0].toArray 51)) := by
 simp [go_sem]
theorem alloc_Z (w : World) : (Instr.alloc 61 true (.tuple #[])).run Tryz.prog w = .ok (.pointer (some ⟨w.heap.size, 0, none⟩)) (w.alloc (.cells [.bool false, .slice none 0 0].toArray 61)) := by
 simp [go_sem]
end
theorem mixed_ : Tryz.prog.follows .mixedOrders = true := by kernel_rfl
def vp (Vs : List SP) (i : Nat) : Value → World → Prop := (Vs.getD i SP.any).p
section
variable {Q : Exit → Act → World → Prop} {id : Nat} {l : List Oper} {a0 : Act} {w0 : World}
theorem wp_region_vs (n1 : Nat) (ds E AL : List Nat) (T : TypeId) (z : List Value) (Vs : List SP)
  (hns : Region.noSelect l.toArray = true) (hB : phaseB l.toArray n1 E = true) (hF : freeB l.toArray E = true) (hD : VarB l n1 ds E AL T a0.tmps.size = true)
  (hz : ∀ w : World, (Instr.alloc T true (.tuple #[])).run Tryz.prog w = .ok (.pointer (some ⟨w.heap.size, 0, none⟩)) (w.alloc (.cells z.toArray T)))
  (hQ : ∀ d v c a w, Q (.panic c) (a.put d v) w → Q (.panic c) a w)
  (hop : ∀ i, i < n1 → AL.contains i = false → ∀ a w, Below w0.heap.size w0 w → (∀ t, ds.contains t = false → a.eval (.tmp t) = a0.eval (.tmp t)) → Deps l ds AL (vp Vs) i a w →
   match l[i]? with | none => True | some o => if E.contains i then ∃ v, (∀ w, (execOp a.eval o).run Tryz.prog w = .ok (.value v) w) ∧ vp Vs i v w else o.wp Tryz.prog a w (Post a w (ds.getD i 0) (vp Vs i)) Q)
  (hend : ∀ (vs : Nat → Value) (w : World), Below w0.heap.size w0 w → (∀ i, i < n1 → AL.contains i = false → vp Vs i (vs (ds.getD i 0)) w) →
   (∀ i, AL.contains i = true → ∃ g, vs (ds.getD i 0) = .pointer (some ⟨g, 0, none⟩) ∧ w0.heap.size ≤ g ∧ Blk w g T z) → (∀ i j, AL.contains i = true → AL.contains j = true → i ≠ j → vs (ds.getD i 0) ≠ vs (ds.getD j 0)) → wpList Tryz.prog l.toArray Q (l.drop n1) (putAll a0 ds vs) w) :
  (Code.region id l.toArray true).wp Tryz.prog Q a0 w0 := by
 refine wp_region_vars n1 ds E AL T z (vp Vs) (fun _ _ => True) mixed_ hns hB hF hD (fun _ _ _ _ _ _ => trivial) (fun _ _ _ _ => trivial) hz hQ (fun i v w w' h hb => (Vs.getD i SP.any).st v w w' h hb) ?_ (fun vs w h1 h2 h3 h4 => wpListS_plain _ _ _ _ (fun _ _ _ => trivial) (hend vs w h1 h2 h3 h4)); intro i hi hA a w hb hs hd; have h := hop i hi hA a w hb hs hd
 cases ho : l[i]? with
 | none => trivial
 | some o =>
  rw [ho] at h; simp only at h ⊢; split at h
  ·next h1 =>
   rw [if_pos h1]; obtain ⟨v, h2, h3⟩ := h; exact ⟨v, fun w _ => h2 w, h3⟩
  next h1 =>
  rw [if_neg h1]; exact h
end
section
variable {w X : World} {t t' : TypeId} {x0 x1 u v : Value} {g h n : Nat} {cs : List Value} {A : Option Addr} {c m : Nat}
theorem blk_put2 (hb : Blk X g t [x0, x1]) : Blk ((X.setCell ⟨g, 0, none⟩ u).setCell ⟨g, 1, none⟩ v) g t [u, v] := (hb.set_ 0 u).set_ 1 v
theorem blk_far2 (hb : Blk X g t cs) (hne : g ≠ h) : Blk ((X.setCell ⟨h, 0, none⟩ u).setCell ⟨h, 1, none⟩ v) g t cs := (hb.far (p := ⟨h, 0, none⟩) hne u).far (p := ⟨h, 1, none⟩) hne v
theorem nn_put2 {b : Bool} {a : Option Addr} {l k : Nat} (hn : NN X A c m) (hb : Blk X g t [.bool b, .slice a l k]) : NN ((X.setCell ⟨g, 0, none⟩ u).setCell ⟨g, 1, none⟩ v) A c m :=
 (hn.set_ hb.c0 (by intro t; simp) u).set_ (hb.set_ 0 u).c1 (by intro t; simp) v
end
theorem ptr_ne {g h : Nat} (hne : Value.pointer (some ⟨g, 0, none⟩) ≠ Value.pointer (some ⟨h, 0, none⟩)) : g ≠ h := fun e => hne (by rw [e])
end Go.Proofs.YtdfhhceboacdcaaGreatDoor
set_option linter.unusedVariables false
namespace Go.Proofs.YtdfhhceboacdcaaGreatDoor
theorem top_two {xs : List Nat} {m : Nat} (hl : xs.length = m + 2) (hd : Dg xs) : val xs = (xs.getD (m + 1) 0 * B + xs.getD m 0) * B ^ m + val (xs.take m) ∧ val (xs.take m) < B ^ m := by
 have h1 := val_take_next xs m; have h2 := val_take_next xs (m + 1); rw [List.take_of_length_le (show xs.length ≤ m + 1 + 1 by omega), h1] at h2; have h3 := val_lt (dg_take hd m); rw [List.length_take, Nat.min_eq_left (by omega)] at h3; refine ⟨?_, h3⟩; rw [h2, Nat.add_mul, Nat.pow_succ, Nat.mul_assoc, Nat.mul_comm (B ^ m) (xs.getD m 0), Nat.mul_assoc, Nat.mul_left_comm (B ^ m) B, Nat.mul_left_comm _ B, Nat.mul_comm (B ^ m)]; omega
theorem top_three {xs : List Nat} {m : Nat} (hl : xs.length = m + 3) (hd : Dg xs) : val xs = ((xs.getD (m + 2) 0 * B + xs.getD (m + 1) 0) * B + xs.getD m 0) * B ^ m + val (xs.take m) ∧ val (xs.take m) < B ^ m := by
 obtain ⟨h1, _⟩ := top_two (xs := xs) (m := m + 1) hl hd; have h2 := val_take_next xs m; have h3 := val_lt (dg_take hd m); rw [List.length_take, Nat.min_eq_left (by omega)] at h3; refine ⟨?_, h3⟩; rw [h1, h2]; generalize xs.getD (m + 1 + 1) 0 * B + xs.getD (m + 1) 0 = X; rw [Nat.add_mul, Nat.pow_succ, Nat.mul_comm (B ^ m) B, ← Nat.mul_assoc, Nat.mul_comm (B ^ m) (xs.getD m 0)]; omega
section
variable {W v v1 v2 u2 top D vl wl g rest : Nat}
theorem kn_init (hv : v = (v1 * B + v2) * D + vl) (hW : W = (top * B + u2) * D + wl) (hwl : wl < D) (hu2 : u2 < B) (hv1 : 0 < v1) (hWv : W < v * B) : W / v ≤ min (top / v1) 4294967295 := by
 have hv0 : 0 < v := by
  rcases Nat.eq_zero_or_pos v with h | h
  ·rw [h] at hWv; omega
  exact h
 have hD : 0 < D := by omega
 apply Nat.le_min.2; constructor
 ·rw [Nat.le_div_iff_mul_le hv1]; have h1 : W / v * v ≤ W := Nat.div_mul_le_self _ _; have h2 : W / v * ((v1 * B) * D) ≤ W / v * v := Nat.mul_le_mul_left _ (by rw [hv, Nat.add_mul]; omega)
  have h3 : W < (top + 1) * B * D := by
   have : (top * B + u2) * D + D ≤ ((top + 1) * B) * D := by
    rw [← Nat.succ_mul]; apply Nat.mul_le_mul_right; rw [Nat.add_mul]; omega
   omega
  have h4 : (W / v * v1) * (B * D) < (top + 1) * (B * D) := by
   rw [← Nat.mul_assoc (top + 1), Nat.mul_assoc (W / v)]; rw [Nat.mul_assoc v1] at h2; omega
  have := Nat.lt_of_mul_lt_mul_right h4; omega
 have : W / v < B := by rw [Nat.div_lt_iff_lt_mul hv0, Nat.mul_comm]; exact hWv
 unfold B at this; omega
theorem kn_step (hv : v = (v1 * B + v2) * D + vl) (hW : W = (top * B + u2) * D + wl) (hwl : wl < D) (hr : g * v1 + rest = top) (hq : W / v ≤ g) (ht : rest * B + u2 < g * v2) : 1 ≤ g ∧ W / v ≤ g - 1 := by
 have hg : 1 ≤ g := by
  rcases Nat.eq_zero_or_pos g with h | h
  ·rw [h] at ht; omega
  exact h
 refine ⟨hg, ?_⟩; rcases Nat.lt_or_ge (W / v) g with h | h
 ·omega
 exfalso; have e : W / v = g := by omega
 have h1 : g * v ≤ W := by rw [← e]; exact Nat.div_mul_le_self _ _
 have h2 : g * ((v1 * B + v2) * D) ≤ g * v := Nat.mul_le_mul_left _ (by rw [hv]; omega)
 have h3 : (top * B + u2 + 1) * D ≤ g * ((v1 * B + v2) * D) := by
  rw [← Nat.mul_assoc]; apply Nat.mul_le_mul_right; rw [Nat.mul_add, ← Nat.mul_assoc, ← hr, Nat.add_mul]; omega
 rw [Nat.add_mul _ 1] at h3; omega
theorem kn_exit (hr : g * v1 + rest = top) (hv2 : v2 < B) (hg : g < B) (ht : B ≤ rest ∨ g * v2 ≤ rest * B + u2) : g * (v1 * B + v2) ≤ top * B + u2 := by
 rw [Nat.mul_add, ← Nat.mul_assoc, ← hr, Nat.add_mul]; rcases ht with h | h
 ·have h1 : g * v2 ≤ B * B := Nat.mul_le_mul (by omega) (by omega); have h2 : B * B ≤ rest * B := Nat.mul_le_mul_right _ h; omega
 omega
theorem kn_fix (hv : v = (v1 * B + v2) * D + vl) (hW : W = (top * B + u2) * D + wl) (hvl : vl < D) (hv1 : 0 < v1) (hg : g < B) (hq : W / v ≤ g) (hx : g * (v1 * B + v2) ≤ top * B + u2) :
  (W < g * v → 1 ≤ g ∧ (g - 1) * v ≤ W ∧ W < (g - 1) * v + v) ∧ (¬ W < g * v → W < g * v + v) := by
 have hD : 0 < D := by omega
 have hB : B ≤ v1 * B := Nat.le_mul_of_pos_left _ hv1
 have hv0 : 0 < v := by
  have : (v1 * B + v2) * D ≥ 1 * D := Nat.mul_le_mul_right _ (by have := B_pos; omega); omega
 constructor
 ·intro hlt
  have hg1 : 1 ≤ g := by
   rcases Nat.eq_zero_or_pos g with h | h
   ·rw [h] at hlt; omega
   exact h
  refine ⟨hg1, ?_, ?_⟩
  ·have h1 : (g - 1) * v ≤ (g - 1) * ((v1 * B + v2 + 1) * D) := Nat.mul_le_mul_left _ (by rw [hv, Nat.add_mul _ 1]; omega)
   have h2 : (g - 1) * ((v1 * B + v2 + 1) * D) ≤ (top * B + u2) * D := by
    rw [← Nat.mul_assoc]; apply Nat.mul_le_mul_right
    have e : (g - 1) * (v1 * B + v2) + (v1 * B + v2) = g * (v1 * B + v2) := by
     rw [← Nat.succ_mul]; congr 1
     omega
    rw [Nat.mul_add _ _ 1]; omega
   omega
  have e : (g - 1) * v + v = g * v := by
   rw [← Nat.succ_mul]; congr 1
   omega
  omega
 intro hge
 have h1 : W < (W / v + 1) * v := by
  have := Nat.lt_div_mul_add (a := W) hv0; rw [Nat.add_mul, Nat.one_mul]; exact this
 have h2 : (W / v + 1) * v ≤ (g + 1) * v := Nat.mul_le_mul_right _ (by omega); rw [Nat.add_mul g, Nat.one_mul] at h2; omega
end
def Long (N v k : Nat) (us qs : List Nat) : Prop := N = v * (B ^ k * val (qs.drop k)) + val us ∧ val us < v * B ^ k
theorem long_start {N v k : Nat} {us qs : List Nat} (h : val us = N) (hN : N < v * B ^ k) (hq : qs.length ≤ k) : Long N v k us qs := by
 subst h; refine ⟨?_, hN⟩; rw [List.drop_eq_nil_of_le hq, val, Nat.mul_zero, Nat.mul_zero, Nat.zero_add]
theorem long_high {us : List Nat} {v n j L : Nat} (hl : us.length = L) (hd : Dg us) (hn : v < B ^ n) (h : val us < v * B ^ (j + 1)) (hj : j + n + 1 ≤ L) :
  val us = val (us.take j) + B ^ j * val ((us.drop j).take (n + 1)) ∧ val ((us.drop j).drop (n + 1)) = 0 ∧ val ((us.drop j).take (n + 1)) < v * B := by
 have e1 := val_split (xs := us) (k := j) (by omega); have e2 := val_split (xs := us.drop j) (k := n + 1) (by rw [List.length_drop]; omega)
 have hz : val ((us.drop j).drop (n + 1)) = 0 := by
  rcases Nat.eq_zero_or_pos (val ((us.drop j).drop (n + 1))) with h0 | h0
  ·exact h0
  exfalso; have h1 : B ^ (n + 1) * 1 ≤ B ^ (n + 1) * val ((us.drop j).drop (n + 1)) := Nat.mul_le_mul_left _ h0; have h2 : B ^ j * (B ^ (n + 1) * 1) ≤ B ^ j * val (us.drop j) := Nat.mul_le_mul_left _ (by omega); have h3 : v * B ^ (j + 1) < B ^ n * B ^ (j + 1) := Nat.mul_lt_mul_of_pos_right hn (Nat.pow_pos B_pos); rw [Nat.mul_one, ← Nat.pow_add] at h2; rw [← Nat.pow_add, show n + (j + 1) = j + (n + 1) from by omega] at h3; omega
 rw [hz, Nat.mul_zero, Nat.add_zero] at e2; rw [e2] at e1; refine ⟨e1, hz, ?_⟩
 have h4 : B ^ j * val ((us.drop j).take (n + 1)) < B ^ j * (v * B) := by
  rw [Nat.pow_succ] at h; rw [Nat.mul_left_comm]; omega
 exact Nat.lt_of_mul_lt_mul_left h4
theorem long_step {N v j n g r L : Nat} {us qs ds : List Nat} (hl : us.length = L) (hd : Dg us) (hn : v < B ^ n) (hj : j + n + 1 ≤ L) (hlq : j < qs.length) (h : Long N v (j + 1) us qs) (hW : val ((us.drop j).take (n + 1)) = g * v + r) (hr : r < v) (hds : val ds = r) (hdl : ds.length = n + 1) :
  Long N v j (us.take j ++ (ds ++ (us.drop j).drop (n + 1))) (qs.set j g) := by
 obtain ⟨h1, h2⟩ := h; obtain ⟨e1, e2, e3⟩ := long_high hl hd hn h2 hj; have hp := val_lt (dg_take hd j); rw [List.length_take, Nat.min_eq_left (by omega)] at hp
 have hv2 : val (us.take j ++ (ds ++ (us.drop j).drop (n + 1))) = val (us.take j) + B ^ j * r := by
  rw [val_append, val_append, e2, hds, List.length_take, Nat.min_eq_left (by omega)]; simp
 refine ⟨?_, ?_⟩
 ·rw [h1, e1, hv2, hW, val_drop_set hlq, Nat.mul_add (B ^ j) g, Nat.mul_add v, Nat.mul_add (B ^ j), Nat.pow_succ, Nat.mul_assoc (B ^ j), Nat.mul_left_comm v (B ^ j) g, Nat.mul_comm v g]; omega
 rw [hv2, Nat.mul_comm v]; have : B ^ j * (r + 1) ≤ B ^ j * v := Nat.mul_le_mul_left _ hr; rw [Nat.mul_add] at this; omega
end Go.Proofs.YtdfhhceboacdcaaGreatDoor
