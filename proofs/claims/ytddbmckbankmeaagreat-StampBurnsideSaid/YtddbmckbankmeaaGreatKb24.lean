/- Part 24 of the texts behind this claim. -/
import Derived.Deep.AppendLies
import Derived.Maps.RangeWalk
import Derived.Shelf.SlSortCmp.NoneTotal
import Derived.Test.YtddbmckbankmeaaGreatProg
import Derived.Test.YtddbmckbankmeaaGreatKb1
import Derived.Test.YtddbmckbankmeaaGreatKb7
import Derived.Test.YtddbmckbankmeaaGreatKb20
import Derived.Test.YtddbmckbankmeaaGreatKb22
import Derived.Test.YtddbmckbankmeaaGreatKb23
set_option linter.unusedVariables false
set_option linter.unusedSimpArgs false
namespace Go.Proofs.YtddbmckbankmeaaGreat
open Go.RowKit
theorem lex_lt {H a b x y : Int} (hx : 0 ≤ x ∧ x < H) (hy : 0 ≤ y ∧ y < H) : a * H + x < b * H + y ↔ a < b ∨ (a = b ∧ x < y) := by
 rcases Int.lt_trichotomy a b with h | h | h
 ·have := Int.mul_le_mul_of_nonneg_right (show a + 1 ≤ b by omega) (show 0 ≤ H by omega); rw [Int.add_mul, Int.one_mul] at this; omega
 ·subst h; omega
 have := Int.mul_le_mul_of_nonneg_right (show b + 1 ≤ a by omega) (show 0 ≤ H by omega); rw [Int.add_mul, Int.one_mul] at this; omega
theorem cmpI_lt (x y : Int) : (x < y ∧ cmpI x y = -1) ∨ (x = y ∧ cmpI x y = 0) ∨ (y < x ∧ cmpI x y = 1) := by
 unfold cmpI; split
 ·omega
 split <;> omega
theorem ord_lt (a b : Mv) : ordM a b < 0 ↔ (a.f = false ∧ b.f = true) ∨ (a.f = b.f ∧ (a.t < b.t ∨ (a.t = b.t ∧ (a.x < b.x ∨ (a.x = b.x ∧ a.y < b.y))))) := by
 unfold ordM; simp only [orL]; rcases cmpI_lt a.t b.t with ⟨h1, e1⟩ | ⟨h1, e1⟩ | ⟨h1, e1⟩ <;> rcases cmpI_lt a.x b.x with ⟨h2, e2⟩ | ⟨h2, e2⟩ | ⟨h2, e2⟩ <;> rcases cmpI_lt a.y b.y with ⟨h3, e3⟩ | ⟨h3, e3⟩ | ⟨h3, e3⟩ <;> rw [e1, e2, e3] <;> cases a.f <;> cases b.f <;> simp <;> omega
theorem ord_num {W H : Int} {a b : Mv} (h : Al W H a) (k : Al W H b) : ordM a b < 0 ↔ numM W H a < numM W H b := by
 have h1 := num_low h; have k1 := num_low k; have e1 := lex_lt (H := H) (a := a.t * W + a.x) (b := b.t * W + b.x) h.y k.y; have e2 := lex_lt (H := W) (a := a.t) (b := b.t) h.x k.x; have e3 : a.t * W + a.x = b.t * W + b.x ↔ a.t = b.t ∧ a.x = b.x := ⟨fun e => num_digits (W := W) h.x k.x e, fun ⟨e, f⟩ => by rw [e, f]⟩; rw [ord_lt]; unfold numM; cases hf : a.f <;> cases hg : b.f <;> simp <;> omega
theorem rising_eq (f : Mv → Int) : ∀ (l m : List Mv), l.Pairwise (fun a b => f a < f b) → m.Pairwise (fun a b => f a < f b) → (∀ x, x ∈ l ↔ x ∈ m) → l = m
 | [], [], _, _, _ => rfl
 | [], b :: m, _, _, h => by have := (h b).2 (List.mem_cons_self ..); cases this
 | a :: l, [], _, _, h => by have := (h a).1 (List.mem_cons_self ..); cases this
 | a :: l, b :: m, h1, h2, h => by
  rw [List.pairwise_cons] at h1 h2
  have hab : a = b := by
   rcases List.mem_cons.1 ((h a).1 (List.mem_cons_self ..)) with e | e
   ·exact e
   rcases List.mem_cons.1 ((h b).2 (List.mem_cons_self ..)) with e' | e'
   ·exact e'.symm
   have := h1.1 b e'; have := h2.1 a e; omega
  subst hab
  have hm : ∀ x, x ∈ l ↔ x ∈ m := by
   intro x; constructor
   ·intro hx; rcases List.mem_cons.1 ((h x).1 (List.mem_cons_of_mem _ hx)) with e | e
    ·subst e; have := h1.1 x hx; omega
    exact e
   intro hx; rcases List.mem_cons.1 ((h x).2 (List.mem_cons_of_mem _ hx)) with e | e
   ·subst e; have := h2.1 x hx; omega
   exact e
  rw [rising_eq f l m h1.2 h2.2 hm]
def OR (a b : Mv) : Prop := ordM a b < 0
theorem rise4 (W H : Nat) (f : Bool) (t x : Nat) : ∀ n, (mvs4 W H f t x n).Pairwise OR
 | 0 => List.Pairwise.nil
 | n + 1 => by
  simp only [mvs4]; rw [List.pairwise_append]; refine ⟨rise4 W H f t x n, by split <;> simp, fun a ha b hb => ?_⟩; obtain ⟨y, hy, rfl, _⟩ := (mem4 W H f t x a n).1 ha; split at hb
  ·rw [List.mem_singleton.1 hb]; show ordM _ _ < 0; rw [ord_lt]; simp; omega
  cases hb
theorem rise3 (W H : Nat) (f : Bool) (t : Nat) : ∀ n, (mvs3 W H f t n).Pairwise OR
 | 0 => List.Pairwise.nil
 | n + 1 => by
  simp only [mvs3]; rw [List.pairwise_append]; refine ⟨rise3 W H f t n, rise4 W H f t n H, fun a ha b hb => ?_⟩; obtain ⟨x, hx, ha⟩ := (mem3 W H f t a n).1 ha; obtain ⟨y, hy, rfl, _⟩ := (mem4 W H f t x a H).1 ha; obtain ⟨z, hz, rfl, _⟩ := (mem4 W H f t n b H).1 hb; show ordM _ _ < 0; rw [ord_lt]; simp; omega
theorem rise2 (W H : Nat) (f : Bool) : ∀ n, (mvs2 W H f n).Pairwise OR
 | 0 => List.Pairwise.nil
 | n + 1 => by
  simp only [mvs2]; rw [List.pairwise_append]; refine ⟨rise2 W H f n, rise3 W H f n W, fun a ha b hb => ?_⟩; obtain ⟨t, ht, ha⟩ := (mem2 W H f a n).1 ha; obtain ⟨x, hx, ha⟩ := (mem3 W H f t a W).1 ha; obtain ⟨y, hy, rfl, _⟩ := (mem4 W H f t x a H).1 ha; obtain ⟨x', hx', hb⟩ := (mem3 W H f n b W).1 hb; obtain ⟨z, hz, rfl, _⟩ := (mem4 W H f n x' b H).1 hb; show ordM _ _ < 0; rw [ord_lt]; simp; omega
theorem f_of2 {W H : Nat} {f : Bool} {n : Nat} {m : Mv} (h : m ∈ mvs2 W H f n) : m.f = f := by
 obtain ⟨t, ht, h⟩ := (mem2 W H f m n).1 h; obtain ⟨x, hx, h⟩ := (mem3 W H f t m W).1 h; obtain ⟨y, hy, rfl, _⟩ := (mem4 W H f t x m H).1 h; rfl
theorem rise1 (W H : Nat) : (mvs1 W H 2).Pairwise OR := by
 show ((([] ++ mvs2 W H (bo 0) 4)) ++ mvs2 W H (bo 1) 4).Pairwise OR; rw [List.nil_append, List.pairwise_append]; refine ⟨rise2 W H _ 4, rise2 W H _ 4, fun a ha b hb => ?_⟩; show ordM _ _ < 0; rw [ord_lt]; left
 exact ⟨f_of2 ha, f_of2 hb⟩
theorem rise_num {W H : Nat} (hs : sizeB W H = true) : (mvs1 W H 2).Pairwise (fun a b => numM W H a < numM W H b) := by
 have h := rise1 W H; refine h.imp_of_mem ?_; intro a b ha hb hab; exact (ord_num ((mem_moves hs a).1 ha) ((mem_moves hs b).1 hb)).1 hab
theorem mem_nthM {ms : List Mv} {m : Mv} : m ∈ ms ↔ ∃ i, i < ms.length ∧ nthM ms i = m := by
 constructor
 ·intro h; obtain ⟨i, hi, e⟩ := List.mem_iff_getElem.1 h; exact ⟨i, hi, nthM_at (by rw [List.getElem?_eq_getElem hi, e])⟩
 rintro ⟨i, hi, rfl⟩; have := at_nthM hi; exact List.mem_of_getElem? this
theorem gB_iff {W H : Nat} (hs : sizeB W H = true) (ms : List Mv) : gB W H ms = true ↔
  (∀ i, i < ms.length → Al W H (nthM ms i)) ∧ ms.Pairwise (fun a b => numM W H a < numM W H b) ∧ memB ⟨0, 0, 0, false⟩ ms = true ∧ ∀ i j, i < ms.length → j < ms.length → memB (aftM W H (nthM ms i) (nthM ms j)) ms = true := by
 unfold gB closB; simp only [Bool.and_eq_true, List.all_eq_true, List.mem_range]; constructor
 ·rintro ⟨h1, h2, h3⟩
  have hal : ∀ i, i < ms.length → Al W H (nthM ms i) := fun i hi => by
   have := h1 i hi; unfold stepB at this; rw [Bool.and_eq_true] at this; exact al_of (f := (nthM ms i).f) hs this.1
  refine ⟨hal, ?_, h2, fun i j hi hj => h3 i hi j hj⟩
  have hst : ∀ i, 0 < i → i < ms.length → numM W H (nthM ms (i - 1)) < numM W H (nthM ms i) := fun i h0 hi => by
   have := h1 i hi; unfold stepB at this; simp only [Bool.and_eq_true, Bool.or_eq_true, decide_eq_true_eq] at this; exact (ord_num (hal _ (by omega)) (hal _ hi)).1 (this.2.resolve_left (by omega))
  have hup : ∀ d i, i + d + 1 < ms.length → numM W H (nthM ms i) < numM W H (nthM ms (i + d + 1)) := by
   intro d
   induction d with
   | zero => intro i hi; have := hst (i + 1) (by omega) (by omega); simpa using this
   | succ d ih =>
    intro i hi; have a1 := ih i (by omega); have a2 := hst (i + (d + 1) + 1) (by omega) hi; rw [show i + (d + 1) + 1 - 1 = i + d + 1 by omega] at a2; omega
  rw [List.pairwise_iff_getElem]; intro i j hi hj hij; have := hup (j - i - 1) i (by omega); rw [show i + (j - i - 1) + 1 = j by omega] at this; rwa [nthM_at (List.getElem?_eq_getElem hi), nthM_at (List.getElem?_eq_getElem hj)] at this
 rintro ⟨hal, hp, h2, h3⟩; refine ⟨fun i hi => ?_, h2, fun i hi j hj => h3 i j hi hj⟩; unfold stepB; simp only [Bool.and_eq_true, Bool.or_eq_true, decide_eq_true_eq]; refine ⟨(hal i hi).al, ?_⟩; by_cases h0 : i = 0
 ·exact .inl h0
 right
 rw [ord_num (hal _ (by omega)) (hal _ hi)]; have := (List.pairwise_iff_getElem.1 hp) (i - 1) i (by omega) hi (by omega); rwa [nthM_at (List.getElem?_eq_getElem (show i - 1 < ms.length by omega)), nthM_at (List.getElem?_eq_getElem hi)]
theorem gB_list {W H : Nat} (hs : sizeB W H = true) {ms : List Mv} (h : gB W H ms = true) : ms = (mvs1 W H 2).filter fun x => memB x ms := by
 obtain ⟨hal, hp, _, _⟩ := (gB_iff hs ms).1 h; refine rising_eq (numM W H) _ _ hp ((rise_num hs).filter _) (fun x => ?_); rw [List.mem_filter]; constructor
 ·intro hx; obtain ⟨i, hi, e⟩ := mem_nthM.1 hx; exact ⟨(mem_moves hs x).2 (e ▸ hal i hi), memB_iff.2 hx⟩
 rintro ⟨_, hx⟩; exact memB_iff.1 hx
theorem moves_len {W H : Nat} (hW : W ≤ 8) (hH : H ≤ 8) : (mvs1 W H 2).length ≤ 512 := len1 W H hW hH 2
theorem len3' (W H : Nat) (f : Bool) (t : Nat) : ∀ n, (mvs3 W H f t n).length ≤ n * H
 | 0 => by simp [mvs3]
 | n + 1 => by
  have := len3' W H f t n; have := len4 W H f t n H; simp only [mvs3, List.length_append, Nat.add_mul, Nat.one_mul]; omega
theorem len2' (W H : Nat) (f : Bool) : ∀ n, (mvs2 W H f n).length ≤ n * (W * H)
 | 0 => by simp [mvs2]
 | n + 1 => by
  have := len2' W H f n; have := len3' W H f n W; simp only [mvs2, List.length_append, Nat.add_mul, Nat.one_mul]; omega
theorem len1' (W H : Nat) : (mvs1 W H 2).length ≤ 8 * (W * H) := by
 have a := len2' W H (bo 0) 4; have b := len2' W H (bo 1) 4; show (([] ++ mvs2 W H (bo 0) 4) ++ mvs2 W H (bo 1) 4).length ≤ _; simp only [List.length_append, List.length_nil]; omega
theorem group_same {W H : Nat} (hs : sizeB W H = true) (ms : List Mv) : gB W H (ms.take 521) = rGB W H ms := by
 have hb := sizeB_bounds hs; cases hg : gB W H (ms.take 521)
 ·symm
  refine rGB_no (fun h => ?_)
  have hl : ms.length ≤ 512 := by
   have := congrArg List.length h.ord; have h2 := List.length_filter_le (fun x => memB x ms) (mvs1 W H 2); have h3 := moves_len (W := W) (H := H) (by omega) (by omega); omega
  rw [List.take_of_length_le (by omega)] at hg
  have : gB W H ms = true := by
   rw [gB_iff hs]; refine ⟨fun i hi => al_of (f := (nthM ms i).f) hs (h.fit i hi), ?_, h.zero, h.clo⟩; rw [h.ord]; exact (rise_num hs).filter _
  rw [this] at hg; cases hg
 symm
 have e := gB_list hs hg; have h3 := moves_len (W := W) (H := H) (by omega) (by omega)
 have hl : (ms.take 521).length ≤ 512 := by
  have := congrArg List.length e; have h2 := List.length_filter_le (fun x => memB x (ms.take 521)) (mvs1 W H 2); omega
 have hm : ms.length ≤ 521 := by
  rw [List.length_take] at hl; omega
 rw [List.take_of_length_le hm] at hg e hl; obtain ⟨hal, hp, h2, h4⟩ := (gB_iff hs ms).1 hg; refine rGB_yes ⟨?_, ?_, fun i hi => (hal i hi).al, e, h4, h2⟩
 ·obtain ⟨i, hi, _⟩ := mem_nthM.1 (memB_iff.1 h2); omega
 have := congrArg List.length e; have h5 := List.length_filter_le (fun x => memB x ms) (mvs1 W H 2); have h6 := len1' W H; have : ms.length ≤ 8 * (W * H) := by omega
 have e8 : (8 * (W : Int) * (H : Int)) = ((8 * (W * H) : Nat) : Int) := by
  rw [Int.natCast_mul, Int.natCast_mul, ← Int.mul_assoc]; rfl
 rw [e8]; omega
theorem Env.putBs {w : World} {L : List Ent} {g j : Nat} {bs : List Bool} {rest : List Value} {b : Bool} (k : Env w L) (i : Nat) (hi : L[i]? = some ⟨g, 4, bools bs ++ rest⟩) (hj : j < bs.length) : Env (putL w g j [.bool b]) (L.set i ⟨g, 4, bools (bs.set j b) ++ rest⟩) := by
 have h := k.putO (o := j) (v := .bool b) i hi; rwa [List.set_append_left _ _ (by unfold bools; rw [List.length_map]; exact hj), show (bools bs).set j (.bool b) = bools (bs.set j b) from by unfold bools; rw [List.map_set]] at h
section
variable {f : Int → Int → Int} {g : Bool} {k : Nat} {n : Int} {bs : List Bool} {x y : Nat}
end
section
variable {f : Int → Int → Int} {k : Nat} {n a b : Int} {Z : Int → Prop} {bs : List Bool}
end
section
variable {P : Nat → Prop} {m : Bool} {i : Nat}
end
def OwnI (lo : Nat) (w : World) (v : Value) (xs : List Int) : Prop := w.ownsRow lo 3 1 v xs.length (ints xs)
section
variable {lo g o : Nat} {w w' : World} {v : Value} {xs : List Int} {vs : List Value}
theorem OwnI.to (h : OwnI lo w v xs) (hb : Below w.heap.size w w') : OwnI lo w' v xs := own_to h hb
theorem OwnI.put (h : OwnI lo w v xs) (hlt : ∀ k, v.ownBlock = some k → k < g) : OwnI lo (putL w g o vs) v xs := own_put hlt h
theorem OwnI.lt (h : OwnI lo w v xs) : ∀ k, v.ownBlock = some k → lo ≤ k ∧ k < w.heap.size := World.ownsRow.lt h
theorem OwnI.lower {lo' : Nat} (h : lo ≤ lo') (ho : OwnI lo' w v xs) : OwnI lo w v xs := by
 refine ⟨ho.1, ?_⟩; rcases ho.2 with hn | ⟨g', cap, cur, rfl, hb, hgg, rest⟩
 ·exact .inl hn
 exact .inr ⟨g', cap, cur, rfl, by omega, hgg, rest⟩
theorem Env.grownBy_ {row : Option Nat} : ∀ {L : List Ent}, Env w L → w.grownBy w' row → (∀ e ∈ L, some e.g ≠ row) → Env w' L
 | [], _, _, _ => trivial
 | e :: L, ⟨h1, h2, h3⟩, hg, hne => ⟨(hg.block e.g h1.lt (hne e (List.mem_cons_self ..))).trans h1, h2, Env.grownBy_ h3 hg (fun e' he => hne e' (List.mem_cons_of_mem _ he))⟩
theorem Env.alloc_ (o : Obj) {L : List Ent} (h : Env w L) : Env (w.alloc o) L := h.to (below_alloc (Below.refl _ _) o)
def isIs (lo : Nat) (xs : List Int) : SP := ⟨fun v w => OwnI lo w v xs, fun v w w' h hb => h.to hb⟩
end
theorem ri_news {w : World} {ad : Addr} {l : List Int} (h : RI w (some ad) l) : ∀ j u, (ints l)[j]? = some u → w.cell? (ad.add j) = some u := fun j u hu => by
 have hj : j < l.length := by
  rcases Nat.lt_or_ge j l.length with h | h
  ·exact h
  rw [List.getElem?_eq_none (by rw [ints_length]; exact h)] at hu; cases hu
 obtain ⟨ad', e, hc⟩ := h (by omega); injection e with e
 subst e; rw [ints_get l hj] at hu; rw [hc j hj, ← Option.some.inj hu]
theorem ri_row {w : World} {ad : Addr} {l : List Int} (h : RI w (some ad) l) : (ints l).length = l.length * 1 ∧ (0 < l.length → ∃ ad', some ad = some ad' ∧ ad'.block < w.heap.size ∧ ∀ j u, (ints l)[j]? = some u → w.cell? (ad'.add j) = some u) := by
 refine ⟨by rw [ints_length, Nat.mul_one], fun hn => ⟨ad, rfl, ?_, ri_news h⟩⟩; obtain ⟨ad', e, hc⟩ := h hn; injection e with e
 subst e; have := World.block_lt_of_cell? _ _ (hc 0 hn); rwa [block_add] at this
theorem OwnI.cl {lo : Nat} {w : World} {v : Value} {xs : List Int} (h : OwnI lo w v xs) : ∃ A k, v = .slice A xs.length k ∧ RI w A xs ∧ (∀ ad, A = some ad → lo ≤ ad.block) ∧ xs.length ≤ k ∧ k ≤ 9223372036854775807 := by
 rcases h.2 with ⟨rfl, h0⟩ | ⟨g, cap, cur, rfl, hg, hh, hnc, hcm, hcs, htk⟩
 ·have : xs = [] := List.eq_nil_of_length_eq_zero h0; subst this; exact ⟨none, 0, rfl, RI.nil _ _, (fun ad h => by cases h), Nat.le_refl _, by omega⟩
 refine ⟨some ⟨g, 0, none⟩, cap, rfl, fun _ => ⟨_, rfl, fun j hj => ?_⟩, (fun ad h => by rw [← Option.some.inj h]; exact hg), hnc, by unfold maxLen at hcm; omega⟩; rw [addr_zero, cell_of_row w g j cur 3 (0, 0) hh, ← Array.getElem?_toList]
 have : cur.toList[j]? = (ints xs)[j]? := by
  rw [← htk, List.getElem?_take, if_pos (by omega)]
 rw [this, ints_get xs hj]
section
variable {Q : Exit → Act → World → Prop} {o : Oper} {a : Act} {w : World} {d : Nat} {x y z : Operand} {ad : Addr} {c lo : Nat} {v0 : Value} {xs ys : List Int} {R : Act → World → Prop}
end
def CellsI (w : World) (A : Option Addr) (ys : List Int) : Prop := RI w A ys ∧ ∀ ad, A = some ad → ∃ cur, w.heap[ad.block]? = some (.cells cur 3 (0, 0))
section
variable {w w' : World} {A : Option Addr} {ys : List Int} {lo : Nat} {k n : Nat}
theorem CellsI.to (h : CellsI w A ys) (hb : Below w.heap.size w w') : CellsI w' A ys := ⟨h.1.to hb, fun ad e => by
 obtain ⟨cur, hc⟩ := h.2 ad e; have hlt : ad.block < w.heap.size := (Array.getElem?_eq_some_iff.1 hc).1
 exact ⟨cur, (hb.block _ hlt).trans hc⟩⟩
end
set_option linter.unusedSectionVars false
set_option linter.unnecessarySimpa false
section
variable {α : Type} [Inhabited α] {enc : α → List Value} {k g n : Nat} {t : TypeId} {w : World} {d d' : Array α} {rest : List Value} {os : Array Obj}
end
theorem cmpI_neg (x y : Int) : cmpI y x = - cmpI x y := by unfold cmpI; split <;> split <;> first | omega | (split <;> omega)
theorem cmpL_refl : ∀ xs : List Int, cmpL xs xs = 0
 | [] => rfl
 | x :: xs => by rw [cmpL, if_pos (cmpI_zero.2 rfl), cmpL_refl xs]
theorem cmpL_neg : ∀ xs ys : List Int, cmpL ys xs = - cmpL xs ys
 | [], [] => rfl
 | [], _ :: _ => rfl
 | _ :: _, [] => rfl
 | x :: xs, y :: ys => by
  rw [cmpL, cmpL, cmpI_neg x y, cmpL_neg xs ys]; by_cases h : cmpI x y = 0
  ·rw [if_pos h, if_pos (by omega)]
  rw [if_neg h, if_neg (by omega)]
theorem cmpL_zero : ∀ {xs ys : List Int}, cmpL xs ys = 0 → xs = ys
 | [], [], _ => rfl
 | [], _ :: _, h => by simp [cmpL] at h
 | _ :: _, [], h => by simp [cmpL] at h
 | x :: xs, y :: ys, h => by
  rw [cmpL] at h; split at h
  ·next h0 => rw [cmpI_zero.1 h0, cmpL_zero h]
  next h0 => exact absurd h h0
theorem cmpL_trans : ∀ {xs ys zs : List Int}, cmpL xs ys < 0 → cmpL ys zs < 0 → cmpL xs zs < 0
 | [], [], _, h, _ => by simp [cmpL] at h
 | [], _ :: _, [], _, h => by simp [cmpL] at h
 | [], _ :: _, _ :: _, _, _ => by simp [cmpL]
 | _ :: _, [], _, h, _ => by simp [cmpL] at h
 | _ :: _, _ :: _, [], _, h => by simp [cmpL] at h
 | x :: xs, y :: ys, z :: zs, h, k => by
  rw [cmpL] at h k ⊢; have a := cmpI_lt x y; have b := cmpI_lt y z; have c := cmpI_lt x z; by_cases h1 : cmpI x y = 0
  ·rw [if_pos h1] at h; by_cases h2 : cmpI y z = 0
   ·rw [if_pos h2] at k; rw [if_pos (by omega)]; exact cmpL_trans h k
   rw [if_neg h2] at k; rw [if_neg (by omega)]; omega
  rw [if_neg h1] at h; by_cases h2 : cmpI y z = 0
  ·rw [if_neg (by omega)]; omega
  rw [if_neg h2] at k; rw [if_neg (by omega)]; omega
theorem ordT_same (W H : Int) (xs ys : List Int) : ordT W H xs W H ys = cmpL xs ys := by
 unfold ordT orL; rw [if_pos (cmpI_zero.2 rfl), orL, if_pos (cmpI_zero.2 rfl), orL, orL]; split
 ·next h => exact h.symm
 rfl
structure Sl where
 A : Option Addr
 k : Nat
 xs : List Int
instance : Inhabited Sl := ⟨⟨none, 0, []⟩⟩
def Sl.ok (w : World) (s : Sl) : Prop := CellsI w s.A s.xs ∧ s.xs.length ≤ 1000000
def encT (W H : Int) (s : Sl) : List Value := [.int .i64 W, .int .i64 H, .slice s.A s.xs.length s.k]
instance : Inhabited Mv := ⟨⟨0, 0, 0, false⟩⟩
theorem CellsI.ne {w : World} {A : Option Addr} {ys : List Int} {g : Nat} {t : TypeId} {us : List Value} (h : CellsI w A ys) (hb : Blk w g t us) (ht : t ≠ 3) : ∀ ad, A = some ad → ad.block ≠ g ∧ ad.block < w.heap.size := fun ad e => by
 obtain ⟨cur, hc⟩ := h.2 ad e; have hlt : ad.block < w.heap.size := (Array.getElem?_eq_some_iff.1 hc).1; refine ⟨fun e2 => ?_, hlt⟩; rw [e2] at hc; unfold Blk at hb; rw [hb] at hc; injection hc with hc
 injection hc with _ hc
 exact ht hc
theorem CellsI.by_ {w w' : World} {A : Option Addr} {ys : List Int} {g : Nat} (h : CellsI w A ys) (hg : w.grownBy w' (some g)) (hne : ∀ ad, A = some ad → ad.block ≠ g) : CellsI w' A ys := by
 have key : ∀ ad, A = some ad → w'.heap[ad.block]? = w.heap[ad.block]? := fun ad e => by
  obtain ⟨cur, hc⟩ := h.2 ad e; exact hg.block _ (Array.getElem?_eq_some_iff.1 hc).1 (fun e2 => hne ad e (Option.some.inj e2))
 refine ⟨fun hn => ?_, fun ad e => ?_⟩
 ·obtain ⟨ad, e, hc⟩ := h.1 hn; refine ⟨ad, e, fun j hj => ?_⟩; have hk : w'.cell? (ad.add j) = w.cell? (ad.add j) := World.cell?_of_block (by rw [block_of_add]; exact key ad e); rw [hk]; exact hc j hj
 obtain ⟨cur, hc⟩ := h.2 ad e; exact ⟨cur, (key ad e).trans hc⟩
section
variable {α : Type} [Inhabited α]
end
section
variable {w w' : World} {g o : Nat} {t : TypeId} {W H : Int} {ts : List Sl} {rest cs us : List Value} {s : Sl} {j : Nat}
theorem encT_len (W H : Int) (s : Sl) : (encT W H s).length = 3 := rfl
theorem tcells_at : ∀ {ts : List Sl} {j : Nat} {s : Sl}, ts[j]? = some s → ∀ q, q < 3 → (ts.flatMap (encT W H) ++ rest)[j * 3 + q]? = (encT W H s)[q]?
 | [], _, _, h, _, _ => by cases h
 | a :: ts, 0, s, h, q, hq => by
  obtain rfl : a = s := by simpa using h
  rw [List.flatMap_cons, List.append_assoc, List.getElem?_append_left (by rw [encT_len]; omega), Nat.zero_mul, Nat.zero_add]
 | a :: ts, j + 1, s, h, q, hq => by
  have h' : ts[j]? = some s := by simpa using h
  rw [List.flatMap_cons, List.append_assoc, List.getElem?_append_right (by rw [encT_len]; omega), encT_len, show (j + 1) * 3 + q - 3 = j * 3 + q by omega]; exact tcells_at h' q hq
theorem tcell_ld (h : Blk w g t (ts.flatMap (encT W H) ++ rest)) (hj : ts[j]? = some s) :
  w.cell? ⟨g, j * 3, none⟩ = some (.int .i64 W) ∧ w.cell? ⟨g, j * 3 + 1, none⟩ = some (.int .i64 H) ∧ w.cell? ⟨g, j * 3 + 2, none⟩ = some (.slice s.A s.xs.length s.k) := by
 rw [h.cell, h.cell, h.cell]; exact ⟨tcells_at (W := W) (H := H) (rest := rest) hj 0 (by omega), tcells_at hj 1 (by omega), tcells_at hj 2 (by omega)⟩
theorem bel_grown {r : Option Nat} (k : Below w.heap.size w w') : w.grownBy w' r := ⟨k.os, k.tape, k.output, k.size, fun q hq _ => k.block q hq⟩
end
section
variable {Q : Exit → Act → World → Prop} {o : Oper} {a : Act} {w : World} {d g j n k i : Nat} {x y : Operand} {t : TypeId} {W H : Int} {ts : List Sl} {rest : List Value} {s : Sl}
theorem op_idxT {b : Nat} (h1 : j < n) (ho : o.op = .indexAddr 31 x y) (hx : a.eval x = .slice (some ⟨g, b, none⟩) n k) (hy : a.eval y = .int .i64 (j : Int)) (w : World) : (execOp a.eval o).run Tryz.prog w = .ok (.value (.pointer (some ⟨g, b + j * 3, none⟩))) w := by
 have e : (⟨g, b, none⟩ : Addr).add (j * 3) = ⟨g, b + j * 3, none⟩ := by unfold Addr.add; split <;> simp_all
 generalize a.eval = ev at hx hy ⊢; unfold execOp; simp only [ho, hx, hy]; simp [go_sem, h1, e]
theorem op_ldvT {A : Option Addr} {m c q : Nat} (ho : o.op = .load 43 x) (hd : o.dst = some d) (hx : a.eval x = .pointer (some ⟨g, q, none⟩))
  (h : w.cell? ⟨g, q, none⟩ = some (.int .i64 W) ∧ w.cell? ⟨g, q + 1, none⟩ = some (.int .i64 H) ∧ w.cell? ⟨g, q + 2, none⟩ = some (.slice A m c)) :
  o.wp Tryz.prog a w (Post a w d (isV (.agg #[.int .i64 W, .int .i64 H, .slice A m c])).p) Q := by
 obtain ⟨h0, h1, h2⟩ := h; refine op_load (v := .agg #[.int .i64 W, .int .i64 H, .slice A m c]) ho hd hx ?_ rfl; simp [go_sem, h0, h1, h2]
theorem op_lenT {A : Option Addr} (ho : o.op = .call { callee := .builtin .len, args := #[x], argTypes := #[31] }) (hd : o.dst = some d) (hx : a.eval x = .slice A n k) : o.wp Tryz.prog a w (Post a w d (isV (.int .i64 ((n : Nat) : Int))).p) Q := by
 refine op_run (v := .int .i64 (n : Int)) hd ?_ rfl; generalize a.eval = ev at hx ⊢; unfold execOp; simp only [ho]; simp [go_sem, hx]
end
def xsn (ts : List Sl) (i : Nat) : List Int := (ts.getD i default).xs
def ddN (ts : List Sl) : Nat → List Sl
 | 0 => []
 | 1 => [ts.getD 0 default]
 | j + 2 => if xsn ts (j + 1) = xsn ts j then ddN ts (j + 1) else ddN ts (j + 1) ++ [ts.getD (j + 1) default]
theorem ddN_dup {ts : List Sl} {j : Nat} (hj : 1 ≤ j) (h : xsn ts j = xsn ts (j - 1)) : ddN ts (j + 1) = ddN ts j := by
 obtain ⟨j, rfl⟩ : ∃ q, j = q + 1 := ⟨j - 1, by omega⟩; rw [ddN]; exact if_pos h
theorem ddN_new {ts : List Sl} {j : Nat} (hj : 1 ≤ j) (h : xsn ts j ≠ xsn ts (j - 1)) : ddN ts (j + 1) = ddN ts j ++ [ts.getD j default] := by
 obtain ⟨j, rfl⟩ : ∃ q, j = q + 1 := ⟨j - 1, by omega⟩; rw [ddN]; exact if_neg h
theorem ddN_all {ts : List Sl} : ∀ {j : Nat}, j ≤ ts.length → (∀ i, 1 ≤ i → i < j → xsn ts i ≠ xsn ts (i - 1)) → ddN ts j = ts.take j
 | 0, _, _ => by simp [ddN]
 | 1, hl, _ => by
  cases ts with
  | nil => simp at hl
  | cons a l => simp [ddN]
 | j + 2, hl, h => by
  rw [ddN_new (j := j + 1) (by omega) (h (j + 1) (by omega) (by omega)), ddN_all (by omega) (fun i h1 h2 => h i h1 (by omega)), List.take_add_one (i := j + 1), List.getD_eq_getElem?_getD, List.getElem?_eq_getElem (by omega)]; rfl
structure Ci (ts : List Sl) (j k : Nat) (cur : List Sl) : Prop where
 len : cur.length = ts.length
 low : cur.take k = ddN ts j
 num : k = (ddN ts j).length
 lt : k < j
 high : ∀ i, j ≤ i + 1 → cur[i]? = ts[i]?
theorem Ci.start {ts : List Sl} {k : Nat} (hk : k < ts.length) (hk1 : 1 ≤ k) (h : ∀ i, 1 ≤ i → i < k → xsn ts i ≠ xsn ts (i - 1)) (hd : xsn ts k = xsn ts (k - 1)) : Ci ts (k + 1) k ts := by
 have e := ddN_all (by omega) h; refine ⟨rfl, by rw [ddN_dup hk1 hd, e], by rw [ddN_dup hk1 hd, e, List.length_take]; omega, by omega, fun _ _ => rfl⟩
theorem Ci.skip {ts cur : List Sl} {j k : Nat} (h : Ci ts j k cur) (hj : 1 ≤ j) (hd : xsn ts j = xsn ts (j - 1)) : Ci ts (j + 1) k cur :=
 ⟨h.len, by rw [ddN_dup hj hd]; exact h.low, by rw [ddN_dup hj hd]; exact h.num, by have := h.lt; omega, fun i hi => h.high i (by omega)⟩
theorem Ci.keep {ts cur : List Sl} {j k : Nat} {s : Sl} (h : Ci ts j k cur) (hj : 1 ≤ j) (hs : ts[j]? = some s) (hd : xsn ts j ≠ xsn ts (j - 1)) : Ci ts (j + 1) (k + 1) (cur.set k s) := by
 have hlt := h.lt; have hjl : j < ts.length := (List.getElem?_eq_some_iff.1 hs).1; have e : ts.getD j default = s := by rw [List.getD_eq_getElem?_getD, hs]; rfl
 refine ⟨by rw [List.length_set]; exact h.len, ?_, by rw [ddN_new hj hd, List.length_append, ← h.num]; rfl, by omega, fun i hi => by rw [List.getElem?_set_ne (by omega)]; exact h.high i (by omega)⟩; rw [ddN_new hj hd, e, ← h.low, List.take_add_one, List.getElem?_set_self (by rw [h.len]; omega), List.take_set_of_le (Nat.le_refl _)]; rfl
theorem Ci.done {ts cur : List Sl} {k : Nat} (h : Ci ts ts.length k cur) : cur = ddN ts ts.length ++ cur.drop k := by
 rw [← h.low, List.take_append_drop]
theorem Sl.ok.to {w w' : World} {s : Sl} (h : s.ok w) (hb : Below w.heap.size w w') : s.ok w' := ⟨h.1.to hb, h.2⟩
section
variable {P : Program} {Q : Exit → Act → World → Prop} {o : Oper} {a : Act} {w : World} {d : Nat} {R : Value → World → Prop} {f : Nat} {x1 x2 y : Operand} {ts : Array TypeId}
end
theorem cmpT_got (Wd Ht : Int) (s1 s0 : Sl) (w : World) (h1 : RI w s1.A s1.xs) (h0 : RI w s0.A s0.xs) (hl1 : s1.xs.length ≤ 140737488351232) (hl0 : s0.xs.length ≤ 140737488351232) :
  Calls Tryz.prog 32 #[.agg #[.int .i64 Wd, .int .i64 Ht, .slice s1.A s1.xs.length s1.k], .agg #[.int .i64 Wd, .int .i64 Ht, .slice s0.A s0.xs.length s0.k]] w (Got w (isV (.int .i64 (cmpL s1.xs s0.xs))).p) := by
 have h := compare_x Wd Ht Wd Ht s1.A s0.A s1.k s0.k s1.xs s0.xs w h1 h0 hl1 hl0; rw [ordT_same] at h; exact h.mono fun e w' ⟨v, he, hb, hv⟩ => ⟨v, he, hb.b, hv⟩
def keepL (W H : Int) (xs : List Int) (ms : List Mv) : List Mv := ms.filter fun m => decide (apM W H m xs = xs)
def OkT (w : World) (ts : List Sl) : Prop := ∀ s ∈ ts, s.ok w
theorem fs_cells {w : World} {g : Nat} {ys : List Int} {rest : List Value} (h : Blk w g 3 (ints ys ++ rest)) : CellsI w (some ⟨g, 0, none⟩) ys := ⟨h.ri, fun ad e => by
 injection e with e
 subst e
 exact ⟨_, h⟩⟩
section
variable {Q : Exit → Act → World → Prop} {o : Oper} {a : Act} {w w' : World} {d lo g : Nat} {x : Operand} {W H : Int} {ys : List Int} {ts : List Sl} {t : TypeId} {us vs : List Value} {off : Nat}
theorem OkT.to (h : OkT w ts) (hb : Below w.heap.size w w') : OkT w' ts := fun s hs => (h s hs).to hb
theorem OkT.by_ (h : OkT w ts) (hg : w.grownBy w' (some g)) (hb : Blk w g t us) (ht : t ≠ 3) : OkT w' ts := fun s hs => ⟨(h s hs).1.by_ hg (fun ad e => ((h s hs).1.ne hb ht ad e).1), (h s hs).2⟩
theorem putL_by : ∀ (vs : List Value) (w : World) (o : Nat), w.grownBy (putL w g o vs) (some g)
 | [], w, o => World.grownBy.refl w _
 | v :: vs, w, o => by
  have h := putL_by vs (w.setCell ⟨g, o, none⟩ v) (o + 1); refine ⟨h.os, h.tape, h.output, Nat.le_trans (by simp [World.setCell]) h.size, fun q hq hne => ?_⟩; have h2 := h.block q (by simpa [World.setCell] using hq) hne; exact h2.trans (Below.heap_setCell w ⟨g, o, none⟩ v q (fun e => hne (by rw [e])))
def OwnT (lo : Nat) (w : World) (v : Value) (W H : Int) (ts : List Sl) : Prop := w.ownsRow lo 43 3 v ts.length (ts.flatMap (encT W H))
theorem OwnT.to {v : Value} (h : OwnT lo w v W H ts) (hb : Below w.heap.size w w') : OwnT lo w' v W H ts := own_to h hb
theorem OwnT.lt {v : Value} (h : OwnT lo w v W H ts) : ∀ k, v.ownBlock = some k → lo ≤ k ∧ k < w.heap.size := World.ownsRow.lt h
theorem OwnT.row {v : Value} (h : OwnT lo w v W H ts) (hne : ts ≠ []) : ∃ g cap rest, v = .slice (some ⟨g, 0, none⟩) ts.length cap ∧ lo ≤ g ∧ Blk w g 43 (ts.flatMap (encT W H) ++ rest) ∧ ts.length ≤ cap ∧ cap ≤ maxLen := by
 rcases h.2 with ⟨_, hn⟩ | ⟨g, cap, cur, rfl, hlo, hg, hnc, hcm, hcs, htk⟩
 ·exact absurd (List.eq_nil_of_length_eq_zero hn) hne
 refine ⟨g, cap, cur.toList.drop (ts.length * 3), rfl, hlo, ?_, hnc, hcm⟩; rw [← htk, List.take_append_drop]; exact hg
theorem OkT.grown_ {r : Option Nat} (h : OkT w ts) (hg : w.grownBy w' r) (hne : ∀ g, r = some g → ∃ t us, Blk w g t us ∧ t ≠ 3) : OkT w' ts := by
 cases r with
 | none => exact h.to ⟨hg.os, hg.tape, hg.output, hg.size, fun k hk => hg.block k hk (by simp)⟩
 | some g =>
  obtain ⟨t, us, hb, ht⟩ := hne g rfl; exact h.by_ hg hb ht
theorem OwnT.blk {v : Value} (h : OwnT lo w v W H ts) : ∀ g, v.ownBlock = some g → ∃ t us, Blk w g t us ∧ t ≠ 3 := fun g e => by
 rcases h.2 with ⟨rfl, _⟩ | ⟨g', cap, cur, rfl, hlo, hg, _⟩
 ·cases e
 injection e with e
 obtain rfl : g' = g := e; exact ⟨_, cur.toList, hg, by decide⟩
end
section
variable {w w' : World} {lo g o : Nat} {W H : Int} {ts : List Sl} {t : TypeId} {us vs : List Value}
theorem OkT.putB (h : OkT w ts) (hb : Blk w g t us) (ht : t ≠ 3 := by decide) : OkT (putL w g o vs) ts := h.by_ (putL_by vs w o) hb ht
theorem OwnT.put {v : Value} (h : OwnT lo w v W H ts) (hlt : ∀ k, v.ownBlock = some k → k < g) : OwnT lo (putL w g o vs) v W H ts := own_put hlt h
end
theorem Tryz.info_stamp : (Tryz.prog.info? 43).map (fun i => (i.zero, i.size, i.bytes)) = some (some (.agg #[.int .i64 0, .int .i64 0, .slice none 0 0]), 3, 40) := by kernel_rfl
def isTs (lo : Nat) (W H : Int) (xss : List (List Int)) : SP := ⟨fun v w => ∃ g k rest ts, v = .slice (some ⟨g, 0, none⟩) ts.length k ∧ ts.map Sl.xs = xss ∧ lo ≤ g ∧ Blk w g 43 (ts.flatMap (encT W H) ++ rest) ∧ OkT w ts,
 fun v w w' h hb => by
  obtain ⟨g, k, rest, ts, h1, h2, h3, h4, h5⟩ := h
  exact ⟨g, k, rest, ts, h1, h2, h3, h4.to hb, h5.to hb⟩⟩
def insX (x : List Int) : List (List Int) → List (List Int)
 | [] => [x]
 | y :: l => if cmpL y x < 0 then y :: insX x l else if cmpL y x = 0 then y :: l else x :: y :: l
def orbL (W H : Int) (xs : List Int) (ms : List Mv) : List (List Int) := (ms.map fun m => apM W H m xs).foldl (fun l x => insX x l) []
theorem mem_ins {x : List Int} : ∀ {l : List (List Int)} {z : List Int}, z ∈ insX x l ↔ z = x ∨ z ∈ l
 | [], z => by simp [insX]
 | y :: l, z => by
  rw [insX]; split
  ·rw [List.mem_cons, mem_ins, List.mem_cons]; constructor
   ·rintro (h | h | h)
    ·exact .inr (.inl h)
    ·exact .inl h
    exact .inr (.inr h)
   rintro (h | h | h)
   ·exact .inr (.inl h)
   ·exact .inl h
   exact .inr (.inr h)
  split
  ·next h1 h2 =>
   have e := cmpL_zero h2; subst e; simp
  simp
theorem ins_rises {x : List Int} : ∀ {l : List (List Int)}, l.Pairwise (fun a b => cmpL a b < 0) → (insX x l).Pairwise (fun a b => cmpL a b < 0)
 | [], _ => by simp [insX]
 | y :: l, h => by
  rw [List.pairwise_cons] at h; rw [insX]; split
  ·next h1 =>
   rw [List.pairwise_cons]; refine ⟨fun z hz => ?_, ins_rises h.2⟩; rcases mem_ins.1 hz with rfl | hz
   ·exact h1
   exact h.1 z hz
  split
  ·exact List.pairwise_cons.2 h
  next h1 h2 =>
  have h3 : cmpL x y < 0 := by rw [cmpL_neg]; omega
  refine List.pairwise_cons.2 ⟨fun z hz => ?_, List.pairwise_cons.2 h⟩; rcases List.mem_cons.1 hz with rfl | hz
  ·exact h3
  exact cmpL_trans h3 (h.1 z hz)
theorem fold_ins : ∀ (l acc : List (List Int)), acc.Pairwise (fun a b => cmpL a b < 0) → (l.foldl (fun l x => insX x l) acc).Pairwise (fun a b => cmpL a b < 0) ∧ ∀ z, z ∈ l.foldl (fun l x => insX x l) acc ↔ z ∈ l ∨ z ∈ acc
 | [], acc, h => ⟨h, fun z => by simp⟩
 | x :: l, acc, h => by
  obtain ⟨h1, h2⟩ := fold_ins l (insX x acc) (ins_rises h); refine ⟨h1, fun z => ?_⟩; rw [List.foldl_cons, h2, mem_ins, List.mem_cons]; constructor
  ·rintro (h | h | h)
   ·exact .inl (.inr h)
   ·exact .inl (.inl h)
   exact .inr h
  rintro ((h | h) | h)
  ·exact .inr (.inl h)
  ·exact .inl h
  exact .inr (.inr h)
theorem rises_eq : ∀ {l m : List (List Int)}, l.Pairwise (fun a b => cmpL a b < 0) → m.Pairwise (fun a b => cmpL a b < 0) → (∀ z, z ∈ l ↔ z ∈ m) → l = m
 | [], [], _, _, _ => rfl
 | [], y :: m, _, _, h => by have := (h y).2 (by simp); cases this
 | x :: l, [], _, _, h => by have := (h x).1 (by simp); cases this
 | x :: l, y :: m, h1, h2, h => by
  rw [List.pairwise_cons] at h1 h2
  have e : x = y := by
   rcases List.mem_cons.1 ((h x).1 (by simp)) with e | e
   ·exact e
   rcases List.mem_cons.1 ((h y).2 (by simp)) with e2 | e2
   ·exact e2.symm
   have a := h2.1 x e; have b := h1.1 y e2; have := cmpL_trans a b; rw [cmpL_refl] at this; omega
  subst e; congr 1
  refine rises_eq h1.2 h2.2 fun z => ?_
  constructor
  ·intro hz; rcases List.mem_cons.1 ((h z).1 (List.mem_cons_of_mem _ hz)) with e | e
   ·subst e; have := h1.1 z hz; rw [cmpL_refl] at this; omega
   exact e
  intro hz; rcases List.mem_cons.1 ((h z).2 (List.mem_cons_of_mem _ hz)) with e | e
  ·subst e; have := h2.1 z hz; rw [cmpL_refl] at this; omega
  exact e
theorem ownS_low {lo lo' : Nat} {w : World} {v : Value} {ms : List Mv} (h : lo ≤ lo') (ho : OwnS lo' w v ms) : OwnS lo w v ms := by
 refine ⟨ho.1, ?_⟩; rcases ho.2 with hn | ⟨g', cap, cur, rfl, hb, hgg, rest⟩
 ·exact .inl hn
 exact .inr ⟨g', cap, cur, rfl, by omega, hgg, rest⟩
theorem size_nat {W H : Int} (h : sizeB W H = true) : ∃ Wn Hn : Nat, W = Wn ∧ H = Hn ∧ sizeB Wn Hn = true := by
 have hb := sizeB_bounds h; exact ⟨W.toNat, H.toNat, by omega, by omega, by rw [show ((W.toNat : Nat) : Int) = W by omega, show ((H.toNat : Nat) : Int) = H by omega]; exact h⟩
theorem group_nz {W H : Int} {ms : List Mv} (h : gB W H ms = true) (hs : sizeB W H = true) : 0 < ms.length := by
 obtain ⟨Wn, Hn, rfl, rfl, hs'⟩ := size_nat hs; exact List.length_pos_of_mem (memB_iff.1 ((gB_iff hs' ms).1 h).2.2.1)
def leastL (W H : Int) (xs : List Int) (ms : List Mv) : List Int := (orbL W H xs ms).getD 0 []
theorem OkT.one {w : World} {s : Sl} (h : s.ok w) : OkT w [s] := fun z hz => by rw [List.mem_singleton.1 hz]; exact h
theorem orb_mem {W H : Int} {xs : List Int} {ms : List Mv} {z : List Int} : z ∈ orbL W H xs ms ↔ ∃ m ∈ ms, apM W H m xs = z := by
 obtain ⟨_, k2⟩ := fold_ins (ms.map fun m => apM W H m xs) [] List.Pairwise.nil; unfold orbL; rw [k2, List.mem_map]; simp
theorem orb_rises (W H : Int) (xs : List Int) (ms : List Mv) : (orbL W H xs ms).Pairwise (fun a b => cmpL a b < 0) := (fold_ins _ [] List.Pairwise.nil).1
theorem got_ts {f lo lo' : Nat} {vs : Array Value} {w : World} {W H : Int} {xss : List (List Int)} {q : SP} (h : lo ≤ lo') (hc : Calls Tryz.prog f vs w (Got w (isP (isTs lo' W H xss) q).p)) : Calls Tryz.prog f vs w (Got w (isP (isTs lo W H xss) q).p) :=
 hc.mono fun e w' ⟨v, h1, h2, x, y, h3, ⟨g, k, rest, ts, h4, h5, h6, h7⟩, h8⟩ => ⟨v, h1, h2, x, y, h3, ⟨g, k, rest, ts, h4, h5, Nat.le_trans h h6, h7⟩, h8⟩
end Go.Proofs.YtddbmckbankmeaaGreat
set_option linter.unusedVariables false
set_option linter.unusedSimpArgs false
namespace Go.Proofs.YtddbmckbankmeaaGreat
section
variable {α β : Type}
theorem len_sub (D : DecidableEq α) : ∀ {l m : List α}, l.Nodup → (∀ x ∈ l, x ∈ m) → l.length ≤ m.length
 | [], m, _, _ => Nat.zero_le _
 | x :: l, m, hn, hs => by
  rw [List.nodup_cons] at hn; have hx : x ∈ m := hs x (by simp); have h := len_sub D (l := l) (m := m.erase x) hn.2 (fun y hy => (List.mem_erase_of_ne (fun e => hn.1 (by rw [← e]; exact hy))).2 (hs y (by simp [hy]))); rw [List.length_erase_of_mem hx] at h; have := List.length_pos_of_mem hx; rw [List.length_cons]; omega
theorem onto_of {l m : List α} (hn : l.Nodup) (hs : ∀ x ∈ l, x ∈ m) (hl : m.length ≤ l.length) : ∀ y ∈ m, y ∈ l := fun y hy => by
 refine Classical.byContradiction fun hc => ?_
 have := len_sub (fun a b => Classical.propDecidable _) (l := y :: l) (m := m) (List.nodup_cons.2 ⟨hc, hn⟩) (fun x hx => (List.mem_cons.1 hx).elim (fun e => by rw [e]; exact hy) (hs x)); rw [List.length_cons] at this; omega
theorem nodup_map {f : α → β} : ∀ {l : List α}, l.Nodup → (∀ x ∈ l, ∀ y ∈ l, f x = f y → x = y) → (l.map f).Nodup
 | [], _, _ => by simp
 | x :: l, hn, hi => by
  rw [List.nodup_cons] at hn; rw [List.map_cons, List.nodup_cons]; refine ⟨fun h => ?_, nodup_map hn.2 (fun a ha b hb => hi a (by simp [ha]) b (by simp [hb]))⟩; obtain ⟨y, hy, e⟩ := List.mem_map.1 h; have := hi y (by simp [hy]) x (by simp) e; exact hn.1 (by rw [← this]; exact hy)
theorem count_one (D : DecidableEq β) (a : β) : ∀ {Z : List β}, Z.Nodup → a ∈ Z → (Z.map fun z => if a = z then 1 else 0).sum = 1
 | [], _, h => by cases h
 | z :: Z, hn, h => by
  rw [List.nodup_cons] at hn; rw [List.map_cons, List.sum_cons]; by_cases e : a = z
  ·subst e
   have hz : (Z.map fun z => if a = z then 1 else 0).sum = 0 := by
    have : ∀ L : List β, a ∉ L → (L.map fun z => if a = z then 1 else 0).sum = 0 := by
     intro L
     induction L with
     | nil => intro _; rfl
     | cons y L ih =>
      intro hL; rw [List.mem_cons, not_or] at hL; rw [List.map_cons, List.sum_cons, if_neg hL.1, ih hL.2]
    exact this Z hn.1
   rw [if_pos rfl, hz]
  rw [if_neg e, count_one D a hn.2 ((List.mem_cons.1 h).resolve_left e)]
theorem sum_add (f g : β → Nat) (Z : List β) : (Z.map fun z => f z + g z).sum = (Z.map f).sum + (Z.map g).sum := by
 induction Z with
 | nil => rfl
 | cons z Z ih => rw [List.map_cons, List.map_cons, List.map_cons, List.sum_cons, List.sum_cons, List.sum_cons, ih]; omega
theorem sum_fibers (D : DecidableEq β) (f : α → β) {Z : List β} (hn : Z.Nodup) : ∀ (l : List α), (∀ x ∈ l, f x ∈ Z) → (Z.map fun z => (l.filter fun x => decide (f x = z)).length).sum = l.length
 | [], _ => by
  have : ∀ L : List β, (L.map fun _ => 0).sum = 0 := fun L => by induction L with
   | nil => rfl
   | cons y L ih => rw [List.map_cons, List.sum_cons, ih]
  simpa using this Z
 | x :: l, h => by
  have e : (Z.map fun z => ((x :: l).filter fun x => decide (f x = z)).length) = Z.map fun z => (if f x = z then 1 else 0) + (l.filter fun x => decide (f x = z)).length := by
   refine List.map_congr_left fun z _ => ?_
   rw [List.filter_cons]; by_cases e : f x = z
   ·rw [if_pos (by simpa using e), if_pos e, List.length_cons]; omega
   rw [if_neg (by simpa using e), if_neg e]; omega
  rw [e, sum_add, count_one D (f x) hn (h x (by simp)), sum_fibers D f hn l (fun y hy => h y (by simp [hy])), List.length_cons]; omega
theorem sum_const (c : Nat) {Z : List β} {f : β → Nat} (h : ∀ z ∈ Z, f z = c) : (Z.map f).sum = c * Z.length := by
 induction Z with
 | nil => simp
 | cons z Z ih => rw [List.map_cons, List.sum_cons, ih (fun y hy => h y (by simp [hy])), h z (by simp), List.length_cons, Nat.mul_add, Nat.mul_one]; omega
end
section
variable {W H : Int} {ms : List Mv} {m n : Mv} {xs : List Int}
theorem zero_aft (h : Al W H n) : aftM W H ⟨0, 0, 0, false⟩ n = n := by
 have hx := h.x; have hy := h.y; have ht := h.t; obtain ⟨x, y, t, f⟩ := n; simp only at hx hy ht; unfold aftM act; simp [trn, Int.emod_eq_of_lt hx.1 hx.2, Int.emod_eq_of_lt hy.1 hy.2, Int.emod_eq_of_lt ht.1 ht.2]
theorem aft_zero (h : Al W H m) : aftM W H m ⟨0, 0, 0, false⟩ = m := by
 have hx := h.x; have hy := h.y; have ht := h.t; obtain ⟨x, y, t, f⟩ := m; simp only at hx hy ht; unfold aftM act; simp only [trn_zero, Int.zero_add, Int.emod_eq_of_lt hx.1 hx.2, Int.emod_eq_of_lt hy.1 hy.2]; cases f
 ·simp [Int.emod_eq_of_lt ht.1 ht.2]
 simp; omega
structure Gp (W H : Int) (ms : List Mv) : Prop where
 al : ∀ m ∈ ms, Al W H m
 nd : ms.Nodup
 one : (⟨0, 0, 0, false⟩ : Mv) ∈ ms
 mul : ∀ m ∈ ms, ∀ n ∈ ms, aftM W H m n ∈ ms
theorem gp_of (hs : sizeB W H = true) (h : gB W H ms = true) : Gp W H ms := by
 obtain ⟨Wn, Hn, rfl, rfl, hs'⟩ := size_nat hs; obtain ⟨h1, h2, h3, h4⟩ := (gB_iff hs' ms).1 h; refine ⟨fun m hm => ?_, h2.imp (fun {a b} h e => by rw [e] at h; exact absurd h (Int.lt_irrefl _)), memB_iff.1 h3, fun m hm n hn => ?_⟩
 ·obtain ⟨i, hi, rfl⟩ := mem_nthM.1 hm; exact h1 i hi
 obtain ⟨i, hi, rfl⟩ := mem_nthM.1 hm; obtain ⟨j, hj, rfl⟩ := mem_nthM.1 hn; exact memB_iff.1 (h4 i j hi hj)
theorem aft_inj (h : Al W H m) {a b : Mv} (ha : Al W H a) (hb : Al W H b) (e : aftM W H m a = aftM W H m b) : a = b := by
 have h1 := congrArg (aftM W H (invM W H m)) e; rw [← aft_assoc (inv_al h) h ha, ← aft_assoc (inv_al h) h hb, inv_one h, zero_aft ha, zero_aft hb] at h1; exact h1
theorem Gp.inv (g : Gp W H ms) (hm : m ∈ ms) : invM W H m ∈ ms := by
 have hA := g.al m hm
 have h1 := onto_of (nodup_map g.nd (fun a ha b hb e => aft_inj hA (g.al a ha) (g.al b hb) e)) (fun x hx => by
  obtain ⟨y, hy, rfl⟩ := List.mem_map.1 hx
  exact g.mul m hm y hy) (by rw [List.length_map]; exact Nat.le_refl _) _ g.one
 obtain ⟨x, hx, e⟩ := List.mem_map.1 h1; have h2 := congrArg (aftM W H (invM W H m)) e; rw [← aft_assoc (inv_al hA) hA (g.al x hx), inv_one hA, zero_aft (g.al x hx), aft_zero (inv_al hA)] at h2; rw [← h2]; exact hx
theorem apM_zero (hW : 1 ≤ W) (hH : 1 ≤ H) (hl : (xs.length : Int) = W * H) (h : Al W H ⟨0, 0, 0, false⟩) : apM W H ⟨0, 0, 0, false⟩ xs = xs := by
 refine List.ext_getElem? fun i => ?_
 by_cases hi : i < xs.length
 ·have h1 := apM_at (xs := xs) h hl (j := (i : Int)) ⟨by omega, by omega⟩; rw [cell_zero hW hH ⟨by omega, by omega⟩] at h1; simp only [Int.toNat_natCast, List.getD_eq_getElem?_getD] at h1; have hi2 : i < (apM W H ⟨0, 0, 0, false⟩ xs).length := by rw [apM_length]; exact hi
  rw [List.getElem?_eq_getElem hi2, List.getElem?_eq_getElem hi] at h1 ⊢; rw [show (apM W H ⟨0, 0, 0, false⟩ xs)[i] = xs[i] from h1]
 rw [List.getElem?_eq_none (by rw [apM_length]; omega), List.getElem?_eq_none (by omega)]
theorem ap_back (h : Al W H m) (hW : 1 ≤ W) (hH : 1 ≤ H) (hl : (xs.length : Int) = W * H) : apM W H (invM W H m) (apM W H m xs) = xs := by
 have hz : Al W H ⟨0, 0, 0, false⟩ := by rw [← inv_one h]; exact aft_al (inv_al h) h
 rw [apM_comp (inv_al h) h hl, inv_one h, apM_zero hW hH hl hz]
theorem orbit_stab (g : Gp W H ms) (hv : validB W H xs = true) : (keepL W H xs ms).length * (orbL W H xs ms).length = ms.length := by
 have hl := valid_len hv; have hs := sizeB_bounds (valid_size hv); have hnd : (orbL W H xs ms).Nodup := (orb_rises W H xs ms).imp (fun {a b} h e => by rw [e, cmpL_refl] at h; omega); have h1 := sum_fibers (inferInstanceAs (DecidableEq (List Int))) (fun m => apM W H m xs) hnd ms (fun m hm => orb_mem.2 ⟨m, hm, rfl⟩); rw [← h1]; refine (sum_const _ fun z hz => ?_).symm; obtain ⟨m0, hm0, rfl⟩ := orb_mem.1 hz; have hA0 := g.al m0 hm0; unfold keepL; have D : DecidableEq Mv := fun a b => Classical.propDecidable _
 refine Nat.le_antisymm ?_ ?_
 ·have h2 := len_sub D (l := (ms.filter fun x => decide (apM W H x xs = apM W H m0 xs)).map (aftM W H (invM W H m0))) (m := ms.filter fun m => decide (apM W H m xs = xs)) (nodup_map (g.nd.filter _) (fun a ha b hb e => aft_inj (inv_al hA0) (g.al a (List.mem_filter.1 ha).1) (g.al b (List.mem_filter.1 hb).1) e)) (fun x hx => by
   obtain ⟨y, hy, rfl⟩ := List.mem_map.1 hx; have hy' := List.mem_filter.1 hy; refine List.mem_filter.2 ⟨g.mul _ (g.inv hm0) _ hy'.1, ?_⟩; have h3 : apM W H y xs = apM W H m0 xs := by simpa using hy'.2
   rw [decide_eq_true_eq, ← apM_comp (inv_al hA0) (g.al y hy'.1) hl, h3, ap_back hA0 hs.1.1 hs.2.1 hl])
  rw [List.length_map] at h2; exact h2
 have h2 := len_sub D (l := (ms.filter fun m => decide (apM W H m xs = xs)).map (aftM W H m0)) (m := ms.filter fun x => decide (apM W H x xs = apM W H m0 xs)) (nodup_map (g.nd.filter _) (fun a ha b hb e => aft_inj hA0 (g.al a (List.mem_filter.1 ha).1) (g.al b (List.mem_filter.1 hb).1) e)) (fun x hx => by
  obtain ⟨y, hy, rfl⟩ := List.mem_map.1 hx; have hy' := List.mem_filter.1 hy; refine List.mem_filter.2 ⟨g.mul _ hm0 _ hy'.1, ?_⟩; have h3 : apM W H y xs = xs := by simpa using hy'.2
  rw [decide_eq_true_eq, ← apM_comp hA0 (g.al y hy'.1) hl, h3])
 rw [List.length_map] at h2; exact h2
theorem orb_orb (g : Gp W H ms) (hv : validB W H xs = true) {z : List Int} (hz : z ∈ orbL W H xs ms) : orbL W H z ms = orbL W H xs ms := by
 have hl := valid_len hv; have hs := sizeB_bounds (valid_size hv); obtain ⟨m0, hm0, rfl⟩ := orb_mem.1 hz; have hA0 := g.al m0 hm0; have hl2 : ((apM W H m0 xs).length : Int) = W * H := by rw [apM_length]; exact hl
 refine rises_eq (orb_rises _ _ _ _) (orb_rises _ _ _ _) fun y => ?_
 rw [orb_mem, orb_mem]; constructor
 ·rintro ⟨m, hm, rfl⟩; exact ⟨aftM W H m m0, g.mul m hm m0 hm0, (apM_comp (g.al m hm) hA0 hl).symm⟩
 rintro ⟨m, hm, rfl⟩; refine ⟨aftM W H m (invM W H m0), g.mul m hm _ (g.inv hm0), ?_⟩; rw [← apM_comp (g.al m hm) (inv_al hA0) hl2, ap_back hA0 hs.1.1 hs.2.1 hl]
theorem orb_least (g : Gp W H ms) (hv : validB W H xs = true) {z : List Int} (hz : z ∈ orbL W H xs ms) : leastL W H z ms = leastL W H xs ms := by
 unfold leastL; rw [orb_orb g hv hz]
end
end Go.Proofs.YtddbmckbankmeaaGreat
set_option linter.unusedVariables false
set_option linter.unusedSimpArgs false
namespace Go.Proofs.YtddbmckbankmeaaGreat
open Go.RowKit
section
variable {w : World} {A B : Option Addr} {k c lo lo' n : Nat} {ms : List Mv} {Wd Ht : Int} {xs : List Int} {f : Nat} {vs : Array Value} {q : SP}
theorem got_ss (h : lo ≤ lo') (hc : Calls Tryz.prog f vs w (Got w (isSs lo' ms).p)) : Calls Tryz.prog f vs w (Got w (isSs lo ms).p) := hc.mono fun e w' ⟨v, h1, h2, h3⟩ => ⟨v, h1, h2, ownS_low h h3⟩
theorem moves_all (hrm : RdM w A ms) (hln : ms.length ≤ 521) : Calls Tryz.prog 6 #[.slice A ms.length k] w (Got w (isSs w.heap.size ms).p) := by
 have h := moves_got A k ms w hrm (by omega); rwa [List.take_of_length_le hln] at h
theorem rd_ok {W H : Int} {s : Sl} {ys : List Int} (h : s.ok w) (e : s.xs = ys) : (rdS W H ys).p (.agg #[.int .i64 W, .int .i64 H, .slice s.A s.xs.length s.k]) w := by
 subst e; exact ⟨s.A, s.k, rfl, h.1.1⟩
end
theorem gp_few {W H : Int} {ms : List Mv} (hs : sizeB W H = true) (h : gB W H ms = true) : ms.length ≤ 512 := by
 obtain ⟨Wn, Hn, rfl, rfl, hs'⟩ := size_nat hs; have hb := sizeB_bounds hs'; rw [gB_list hs' h]; exact Nat.le_trans (List.length_filter_le _ _) (moves_len (by omega) (by omega))
theorem gp_take {W H : Int} {ms : List Mv} (hs : sizeB W H = true) (h : gB W H (ms.take 521) = true) : ms.take 521 = ms := by
 have h1 := gp_few hs h; rw [List.length_take] at h1; exact List.take_of_length_le (by omega)
theorem least_mem {W H : Int} {xs : List Int} {ms : List Mv} (h : 0 < ms.length) : leastL W H xs ms ∈ orbL W H xs ms := by
 have h2 : apM W H ms[0] xs ∈ orbL W H xs ms := orb_mem.2 ⟨_, List.getElem_mem _, rfl⟩; unfold leastL
 cases ho : orbL W H xs ms with
 | nil => rw [ho] at h2; cases h2
 | cons a l => simp
end Go.Proofs.YtddbmckbankmeaaGreat
set_option linter.unusedVariables false
set_option linter.unusedSimpArgs false
set_option linter.unnecessarySimpa false
namespace Go.Proofs.YtddbmckbankmeaaGreat
def dgs (K : Nat) : Nat → Nat → List Int
 | 0, _ => []
 | N + 1, n => dgs K N (n / K) ++ [((n % K : Nat) : Int)]
def Col (K N : Nat) (xs : List Int) : Prop := xs.length = N ∧ ∀ x ∈ xs, 0 ≤ x ∧ x < K
def valD (K : Nat) (xs : List Int) : Nat := xs.foldl (fun a x => a * K + x.toNat) 0
theorem valD_snoc (K : Nat) (xs : List Int) (x : Int) : valD K (xs ++ [x]) = valD K xs * K + x.toNat := by unfold valD; rw [List.foldl_append]; rfl
theorem dgs_len (K : Nat) : ∀ N n, (dgs K N n).length = N
 | 0, _ => rfl
 | N + 1, n => by rw [dgs, List.length_append, dgs_len K N]; rfl
theorem dgs_col {K : Nat} (hK : 0 < K) : ∀ N n, Col K N (dgs K N n)
 | 0, n => ⟨rfl, fun x hx => by cases hx⟩
 | N + 1, n => by
  refine ⟨dgs_len K _ _, fun x hx => ?_⟩; rw [dgs] at hx; rcases List.mem_append.1 hx with hx | hx
  ·exact (dgs_col hK N (n / K)).2 x hx
  rw [List.mem_singleton.1 hx]; have := Nat.mod_lt n hK; omega
theorem val_dgs {K : Nat} (hK : 0 < K) : ∀ N n, n < K ^ N → valD K (dgs K N n) = n
 | 0, n, h => by simp at h; subst h; rfl
 | N + 1, n, h => by
  rw [dgs, valD_snoc, val_dgs hK N (n / K) (Nat.div_lt_of_lt_mul (by rw [Nat.pow_succ, Nat.mul_comm] at h; exact h)), Int.toNat_natCast]; rw [Nat.mul_comm]; exact Nat.div_add_mod n K
theorem dgs_val {K : Nat} (hK : 0 < K) : ∀ {N : Nat} {xs : List Int}, Col K N xs → valD K xs < K ^ N ∧ dgs K N (valD K xs) = xs
 | 0, xs, h => by
  obtain rfl : xs = [] := List.eq_nil_of_length_eq_zero h.1; exact ⟨by simp [valD], rfl⟩
 | N + 1, xs, h => by
  rcases List.eq_nil_or_concat xs with rfl | ⟨ys, x, rfl⟩
  ·have := h.1; simp at this
  rw [List.concat_eq_append] at h ⊢; have hx := h.2 x (by simp); obtain ⟨h1, h2⟩ := dgs_val hK (N := N) (xs := ys) ⟨by have := h.1; simpa using this, fun y hy => h.2 y (by simp [hy])⟩; have hlt : x.toNat < K := by omega
  rw [valD_snoc]; refine ⟨?_, ?_⟩
  ·rw [Nat.pow_succ]; have : (valD K ys + 1) * K ≤ K ^ N * K := Nat.mul_le_mul_right _ h1; rw [Nat.add_mul, Nat.one_mul] at this; omega
  rw [dgs, Nat.add_comm (valD K ys * K), Nat.add_mul_div_right _ _ hK, Nat.div_eq_of_lt hlt, Nat.zero_add, h2, Nat.add_mul_mod_self_right, Nat.mod_eq_of_lt hlt]; congr 2
  omega
def allC (K N : Nat) : List (List Int) := (List.range (K ^ N)).map (dgs K N)
theorem mem_allC {K N : Nat} (hK : 0 < K) {xs : List Int} : xs ∈ allC K N ↔ Col K N xs := by
 unfold allC; rw [List.mem_map]; constructor
 ·rintro ⟨n, _, rfl⟩; exact dgs_col hK N n
 intro h; obtain ⟨h1, h2⟩ := dgs_val hK h; exact ⟨_, List.mem_range.2 h1, h2⟩
theorem allC_nodup {K N : Nat} (hK : 0 < K) : (allC K N).Nodup := nodup_map List.nodup_range (fun a ha b hb e => by
 rw [← val_dgs hK N a (List.mem_range.1 ha), ← val_dgs hK N b (List.mem_range.1 hb), e])
section
variable {W H : Int} {ms : List Mv} {m : Mv} {xs z : List Int} {K N : Nat}
def repB (W H : Int) (ms : List Mv) (xs : List Int) : Bool := !(ms.any fun m => decide (cmpL (apM W H m xs) xs < 0))
def listL (W H : Int) (ms : List Mv) (K N : Nat) : List (List Int) := (allC K N).filter (repB W H ms)
theorem ap_mem (h : Al W H m) (hl : (xs.length : Int) = W * H) : ∀ x ∈ apM W H m xs, x ∈ xs := fun x hx => by
 obtain ⟨i, hi, e⟩ := List.mem_iff_getElem.1 hx; rw [apM_length] at hi; have hi2 : (0 : Int) ≤ i ∧ (i : Int) < W * H := ⟨by omega, by omega⟩; have hj := cell_lt (inv_al h) (i : Int); have h1 := apM_at (xs := xs) h hl hj; rw [cell_inv h hi2, Int.toNat_natCast] at h1; have hi3 : i < (apM W H m xs).length := by rw [apM_length]; exact hi
 have hj2 : (cellM W H (invM W H m) (i : Int)).toNat < xs.length := by omega
 rw [List.getD_eq_getElem?_getD, List.getElem?_eq_getElem hi3, List.getD_eq_getElem?_getD, List.getElem?_eq_getElem hj2] at h1; rw [← e, show (apM W H m xs)[i] = xs[(cellM W H (invM W H m) (i : Int)).toNat] from h1]; exact List.getElem_mem _
theorem ap_col (h : Al W H m) (hN : (N : Int) = W * H) (hc : Col K N xs) : Col K N (apM W H m xs) :=
 ⟨by rw [apM_length]; exact hc.1, fun x hx => hc.2 x (ap_mem h (by rw [hc.1]; exact hN) x hx)⟩
theorem col_valid (hs : sizeB W H = true) (hN : (N : Int) = W * H) (hK : K ≤ 8) (hc : Col K N xs) : validB W H xs = true := by
 have hcl := hc.1; unfold validB; rw [hs]; simp only [Bool.true_and, Bool.and_eq_true, decide_eq_true_eq, Bool.not_eq_true']; refine ⟨by omega, ?_⟩; rw [List.any_eq_false]; intro x hx; have := hc.2 x hx; unfold badc; simp; omega
theorem orb_self (g : Gp W H ms) (hv : validB W H xs = true) : xs ∈ orbL W H xs ms := by
 have hs := sizeB_bounds (valid_size hv); exact orb_mem.2 ⟨_, g.one, apM_zero hs.1.1 hs.2.1 (valid_len hv) (g.al _ g.one)⟩
theorem head_le (hz : z ∈ orbL W H xs ms) : cmpL (leastL W H xs ms) z ≤ 0 := by
 have hr := orb_rises W H xs ms; unfold leastL
 cases ho : orbL W H xs ms with
 | nil => rw [ho] at hz; cases hz
 | cons a l =>
  rw [ho] at hz hr; rw [List.pairwise_cons] at hr; show cmpL a z ≤ 0; rcases List.mem_cons.1 hz with rfl | hz
  ·rw [cmpL_refl]; exact Int.le_refl _
  exact Int.le_of_lt (hr.1 z hz)
theorem rep_iff (g : Gp W H ms) (hv : validB W H xs = true) : repB W H ms xs = true ↔ leastL W H xs ms = xs := by
 have hnz : 0 < ms.length := List.length_pos_of_mem g.one; unfold repB; rw [Bool.not_eq_true', List.any_eq_false]; constructor
 ·intro h; obtain ⟨m, hm, e⟩ := orb_mem.1 (least_mem (W := W) (H := H) (xs := xs) hnz); have h1 := h m hm; rw [e] at h1; have h2 := head_le (orb_self g hv); simp at h1; exact cmpL_zero (by omega)
 intro h m hm; have h1 := head_le (W := W) (H := H) (xs := xs) (ms := ms) (orb_mem.2 ⟨m, hm, rfl⟩); rw [h] at h1; have h2 := cmpL_neg xs (apM W H m xs); simp; omega
theorem orb_col (g : Gp W H ms) (hN : (N : Int) = W * H) (hc : Col K N xs) (hz : z ∈ orbL W H xs ms) : Col K N z := by
 obtain ⟨m, hm, rfl⟩ := orb_mem.1 hz; exact ap_col (g.al m hm) hN hc
theorem mem_listL (hK : 0 < K) : z ∈ listL W H ms K N ↔ Col K N z ∧ repB W H ms z = true := by
 unfold listL; rw [List.mem_filter, mem_allC hK]
theorem least_list (g : Gp W H ms) (hs : sizeB W H = true) (hN : (N : Int) = W * H) (hK : 0 < K) (hK8 : K ≤ 8) (hc : Col K N xs) : leastL W H xs ms ∈ listL W H ms K N := by
 have hnz : 0 < ms.length := List.length_pos_of_mem g.one; have hv := col_valid hs hN hK8 hc; have hm := least_mem (W := W) (H := H) (xs := xs) hnz; have hc2 := orb_col g hN hc hm; exact (mem_listL hK).2 ⟨hc2, (rep_iff g (col_valid hs hN hK8 hc2)).2 (orb_least g hv hm)⟩
theorem listL_ne (g : Gp W H ms) (hs : sizeB W H = true) (hN : (N : Int) = W * H) (hK : 0 < K) (hK8 : K ≤ 8) : listL W H ms K N ≠ [] := fun e => by
 have := least_list g hs hN hK hK8 (dgs_col hK N 0); rw [e] at this; cases this
theorem listL_nodup (W H : Int) (ms : List Mv) (N : Nat) (hK : 0 < K) : (listL W H ms K N).Nodup := (allC_nodup hK).filter _
end
end Go.Proofs.YtddbmckbankmeaaGreat
