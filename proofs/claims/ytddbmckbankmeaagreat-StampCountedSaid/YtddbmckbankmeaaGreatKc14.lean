/- Part 14 of the texts behind this claim. -/
import Derived.Test.YtddbmckbankmeaaGreatKc10
import Derived.Test.YtddbmckbankmeaaGreatKc13
set_option linter.unusedVariables false
set_option linter.unusedSimpArgs false
set_option linter.unnecessarySimpa false
namespace Go.Proofs.YtddbmckbankmeaaGreat
section
variable {α β : Type}
theorem sum_fibersW (D : DecidableEq β) (f : α → β) (g : α → Nat) {Z : List β} (hn : Z.Nodup) : ∀ (l : List α), (∀ x ∈ l, f x ∈ Z) → (Z.map fun z => ((l.filter fun x => decide (f x = z)).map g).sum).sum = (l.map g).sum
 | [], _ => by
  have : ∀ L : List β, (L.map fun _ => 0).sum = 0 := fun L => by induction L with
   | nil => rfl
   | cons y L ih => rw [List.map_cons, List.sum_cons, ih]
  simpa using this Z
 | x :: l, h => by
  have e : (Z.map fun z => (((x :: l).filter fun x => decide (f x = z)).map g).sum) = Z.map fun z => (g x * if f x = z then 1 else 0) + ((l.filter fun x => decide (f x = z)).map g).sum := by
   refine List.map_congr_left fun z _ => ?_
   rw [List.filter_cons]; by_cases e : f x = z
   ·rw [if_pos (by simpa using e), if_pos e, List.map_cons, List.sum_cons]; omega
   rw [if_neg (by simpa using e), if_neg e]; omega
  have hm : ∀ (c : Nat) (q : β → Nat) (L : List β), (L.map fun z => c * q z).sum = c * (L.map q).sum := by
   intro c q L
   induction L with
   | nil => simp
   | cons y L ih => rw [List.map_cons, List.map_cons, List.sum_cons, List.sum_cons, ih, Nat.mul_add]
  rw [e, sum_add, hm, count_one D (f x) hn (h x (by simp)), sum_fibersW D f g hn l (fun y hy => h y (by simp [hy])), List.map_cons, List.sum_cons]; omega
theorem zero_sum (L : List β) : (L.map fun _ => 0).sum = 0 := by
 induction L with
 | nil => rfl
 | cons y L ih => rw [List.map_cons, List.sum_cons, ih]
theorem filter_sum (q : β → Bool) (Z : List β) : (Z.filter q).length = (Z.map fun z => if q z then 1 else 0).sum := by
 induction Z with
 | nil => rfl
 | cons y Z ih =>
  rw [List.filter_cons, List.map_cons, List.sum_cons]; by_cases e : q y = true
  ·rw [if_pos e, if_pos e, List.length_cons, ih]; omega
  rw [if_neg e, if_neg e, ih]; omega
theorem sum_swap (q : α → β → Bool) (l : List α) (Z : List β) : (l.map fun x => (Z.filter (q x)).length).sum = (Z.map fun z => (l.filter fun x => q x z).length).sum := by
 induction l with
 | nil => simpa using (zero_sum Z).symm
 | cons x l ih =>
  have e : (Z.map fun z => ((x :: l).filter fun x => q x z).length) = Z.map fun z => (if q x z then 1 else 0) + (l.filter fun x => q x z).length := by
   refine List.map_congr_left fun z _ => ?_
   rw [List.filter_cons]; by_cases e : q x z = true
   ·rw [if_pos e, if_pos e, List.length_cons]; omega
   rw [if_neg e, if_neg e]; omega
  rw [e, sum_add, List.map_cons, List.sum_cons, ih, filter_sum]
theorem same_len (D : DecidableEq α) {l m : List α} (hl : l.Nodup) (hm : m.Nodup) (h : ∀ x, x ∈ l ↔ x ∈ m) : l.length = m.length :=
 Nat.le_antisymm (len_sub D hl fun x hx => (h x).1 hx) (len_sub D hm fun x hx => (h x).2 hx)
end
def itr (f : Nat → Nat) : Nat → Nat → Nat
 | 0, i => i
 | t + 1, i => f (itr f t i)
def IsCyc (f : Nat → Nat) (N n : Nat) : Prop := ∃ lab root : Nat → Nat, (∀ j, j < N → lab j < n ∧ lab (f j) = lab j ∧ ∃ t, itr f t (root (lab j)) = j) ∧ ∀ k, k < n → root k < N ∧ lab (root k) = k
def KeptBy (f : Nat → Nat) (N : Nat) (xs : List Int) : Prop := ∀ j, j < N → xs.getD (f j) 0 = xs.getD j 0
theorem itr_lt {f : Nat → Nat} {N : Nat} (hf : ∀ j, j < N → f j < N) {i : Nat} (hi : i < N) : ∀ t, itr f t i < N
 | 0 => hi
 | t + 1 => hf _ (itr_lt hf hi t)
theorem kept_itr {f : Nat → Nat} {N : Nat} (hf : ∀ j, j < N → f j < N) {xs : List Int} (h : KeptBy f N xs) {i : Nat} (hi : i < N) : ∀ t, xs.getD (itr f t i) 0 = xs.getD i 0
 | 0 => rfl
 | t + 1 => (h _ (itr_lt hf hi t)).trans (kept_itr hf h hi t)
theorem getD_map_range {g : Nat → Int} {N j : Nat} (hj : j < N) : ((List.range N).map g).getD j 0 = g j := by
 rw [List.getD_eq_getElem?_getD, List.getElem?_map, List.getElem?_range hj]; rfl
theorem col_at {K N : Nat} {xs : List Int} (h : Col K N xs) {j : Nat} (hj : j < N) : 0 ≤ xs.getD j 0 ∧ xs.getD j 0 < K := by
 rw [List.getD_eq_getElem?_getD, List.getElem?_eq_getElem (by rw [h.1]; exact hj)]; exact h.2 _ (List.getElem_mem _)
theorem ext_getD {xs ys : List Int} {N : Nat} (hx : xs.length = N) (hy : ys.length = N) (h : ∀ j, j < N → xs.getD j 0 = ys.getD j 0) : xs = ys := by
 refine List.ext_getElem (by rw [hx, hy]) fun j h1 h2 => ?_
 have := h j (by omega); rw [List.getD_eq_getElem?_getD, List.getD_eq_getElem?_getD, List.getElem?_eq_getElem h1, List.getElem?_eq_getElem h2] at this; exact this
open Classical in
theorem kept_count {f : Nat → Nat} {N n K : Nat} (hf : ∀ j, j < N → f j < N) (hK : 0 < K) (hc : IsCyc f N n) : ((allC K N).filter fun xs => decide (KeptBy f N xs)).length = K ^ n := by
 obtain ⟨lab, root, h1, h2⟩ := hc; have h3 : (allC K n).length = K ^ n := by unfold allC; rw [List.length_map, List.length_range]
 have h4 : ((allC K n).map fun ys : List Int => (List.range N).map fun j => ys.getD (lab j) 0).length = K ^ n := by rw [List.length_map]; exact h3
 rw [← h4]; refine same_len (inferInstanceAs (DecidableEq (List Int))) ((allC_nodup hK).filter _) (nodup_map (allC_nodup hK) fun a ha b hb e => ?_) fun xs => ?_
 ·have ca := (mem_allC hK).1 ha; have cb := (mem_allC hK).1 hb; refine ext_getD ca.1 cb.1 fun k hk => ?_
  obtain ⟨hr, hl⟩ := h2 k hk; have e1 := congrArg (fun l : List Int => l.getD (root k) 0) e; simp only [getD_map_range hr, hl] at e1; exact e1
 rw [List.mem_filter, List.mem_map, decide_eq_true_eq, mem_allC hK]; constructor
 ·rintro ⟨hcx, hk⟩; refine ⟨(List.range n).map fun k => xs.getD (root k) 0, (mem_allC hK).2 ⟨by simp, fun y hy => ?_⟩, ?_⟩
  ·obtain ⟨k, hk, rfl⟩ := List.mem_map.1 hy; exact col_at hcx (h2 k (List.mem_range.1 hk)).1
  refine ext_getD (by simp) hcx.1 fun j hj => ?_
  obtain ⟨hl, _, t, ht⟩ := h1 j hj; rw [getD_map_range hj, getD_map_range hl, ← kept_itr hf hk (h2 _ hl).1 t, ht]
 rintro ⟨ys, hy, rfl⟩; have cy := (mem_allC hK).1 hy; refine ⟨⟨by simp, fun x hx => ?_⟩, fun j hj => ?_⟩
 ·obtain ⟨j, hj, rfl⟩ := List.mem_map.1 hx; exact col_at cy (h1 j (List.mem_range.1 hj)).1
 rw [getD_map_range (hf j hj), getD_map_range hj, (h1 j hj).2.1]
structure Cy (f : Nat → Nat) (N : Nat) (s : List Bool) (n : Nat) : Prop where
 len : s.length = N
 fwd : ∀ j, j < N → s.getD j false = true → s.getD (f j) false = true
 bwd : ∀ j, j < N → s.getD (f j) false = true → s.getD j false = true
 ex : ∃ lab root : Nat → Nat, (∀ j, j < N → s.getD j false = true → lab j < n ∧ lab (f j) = lab j ∧ ∃ t, itr f t (root (lab j)) = j) ∧ ∀ k, k < n → root k < N ∧ lab (root k) = k ∧ s.getD (root k) false = true
structure Cw (f : Nat → Nat) (N : Nat) (s0 : List Bool) (i t : Nat) (s : List Bool) (c : Nat) : Prop where
 at_ : c = itr f t i
 len : s.length = N
 mem : ∀ j, j < N → (s.getD j false = true ↔ s0.getD j false = true ∨ ∃ u, u < t ∧ itr f u i = j)
 new : ∀ u, u < t → s0.getD (itr f u i) false = false
 dis : ∀ v, v < t → ∀ u, u < v → itr f u i ≠ itr f v i
section
variable {f : Nat → Nat} {N n i t c : Nat} {s s0 : List Bool}
theorem Cy.start (f : Nat → Nat) (N : Nat) : Cy f N (List.replicate N false) 0 := by
 have h0 : ∀ j, (List.replicate N false).getD j false = false := fun j => by
  rw [List.getD_eq_getElem?_getD, List.getElem?_replicate]; split <;> rfl
 exact ⟨by simp, fun j _ h => (by rw [h0] at h; cases h), fun j _ h => (by rw [h0] at h; cases h), fun _ => 0, fun _ => 0, fun j _ h => (by rw [h0] at h; cases h), fun k hk => by omega⟩
theorem Cy.all (h : Cy f N s n) (ha : ∀ j, j < N → s.getD j false = true) : IsCyc f N n := by
 obtain ⟨lab, root, h1, h2⟩ := h.ex; exact ⟨lab, root, fun j hj => h1 j hj (ha j hj), fun k hk => ⟨(h2 k hk).1, (h2 k hk).2.1⟩⟩
theorem Cw.start (h : Cy f N s n) : Cw f N s i 0 s i := ⟨rfl, h.len, fun j _ => by simp, fun u hu => by omega, fun v hv => by omega⟩
theorem set_getD_b (hc : c < s.length) (j : Nat) : (s.set c true).getD j false = if j = c then true else s.getD j false := by
 rw [List.getD_eq_getElem?_getD, List.getElem?_set, List.getD_eq_getElem?_getD]; by_cases h : c = j
 ·subst h; rw [if_pos rfl, if_pos rfl, if_pos hc]; rfl
 rw [if_neg h, if_neg (Ne.symm h)]
theorem Cw.step (hf : ∀ j, j < N → f j < N) (hi : i < N) (h : Cw f N s0 i t s c) (hc : s.getD c false = false) : Cw f N s0 i (t + 1) (s.set c true) (f c) := by
 have hcN : c < N := by rw [h.at_]; exact itr_lt hf hi t
 have h0 : s0.getD c false = false := by
  cases e : s0.getD c false with
  | false => rfl
  | true => rw [(h.mem c hcN).2 (.inl e)] at hc; cases hc
 refine ⟨by rw [h.at_]; rfl, by simp [h.len], fun j hj => ?_, fun u hu => ?_, fun v hv u hu => ?_⟩
 ·rw [set_getD_b (by rw [h.len]; exact hcN)]; constructor
  ·intro hs; by_cases e : j = c
   ·exact .inr ⟨t, by omega, by rw [e, h.at_]⟩
   rw [if_neg e] at hs; rcases (h.mem j hj).1 hs with h1 | ⟨u, hu, e2⟩
   ·exact .inl h1
   exact .inr ⟨u, by omega, e2⟩
  intro hs; by_cases e : j = c
  ·rw [if_pos e]
  rw [if_neg e]; refine (h.mem j hj).2 ?_; rcases hs with h1 | ⟨u, hu, e2⟩
  ·exact .inl h1
  rcases Nat.lt_or_ge u t with hut | hut
  ·exact .inr ⟨u, hut, e2⟩
  obtain rfl : u = t := by omega
  exact absurd (by rw [← e2, h.at_]) e
 ·rcases Nat.lt_or_ge u t with hut | hut
  ·exact h.new u hut
  obtain rfl : u = t := by omega
  rw [← h.at_]; exact h0
 rcases Nat.lt_or_ge v t with hvt | hvt
 ·exact h.dis v hvt u hu
 obtain rfl : v = t := by omega
 intro e; rw [← h.at_] at e; rw [(h.mem c hcN).2 (.inr ⟨u, hu, e⟩)] at hc; cases hc
theorem Cw.pos (h : Cw f N s0 i t s c) (h0 : s0.getD i false = false) (hi : i < N) (hc : s.getD c false = true) : 0 < t := by
 rcases Nat.eq_zero_or_pos t with rfl | h1
 ·have e : c = i := h.at_; subst e; rcases (h.mem c hi).1 hc with h2 | ⟨u, hu, _⟩
  ·rw [h0] at h2; cases h2
  omega
 exact h1
theorem Cw.back (hf : ∀ j, j < N → f j < N) (hinj : ∀ a b, a < N → b < N → f a = f b → a = b) (hy : Cy f N s0 n) (h : Cw f N s0 i t s c) (hi : i < N) (h0 : s0.getD i false = false) (hc : s.getD c false = true) : itr f t i = i := by
 have ht := h.pos h0 hi hc; have hcN : c < N := by rw [h.at_]; exact itr_lt hf hi t
 obtain ⟨r, rfl⟩ : ∃ r, t = r + 1 := ⟨t - 1, by omega⟩; have hrN := itr_lt hf hi r; rcases (h.mem c hcN).1 hc with h1 | ⟨u, hu, e⟩
 ·rw [h.at_] at h1; have h2 := hy.bwd _ hrN h1; rw [h.new r (by omega)] at h2; cases h2
 rcases Nat.eq_zero_or_pos u with rfl | hu0
 ·rw [← h.at_]; exact e.symm
 obtain ⟨v, rfl⟩ : ∃ v, u = v + 1 := ⟨u - 1, by omega⟩; rw [h.at_] at e; have := hinj _ _ (itr_lt hf hi v) hrN e; exact absurd this (h.dis r (by omega) v (by omega))
theorem Cw.done (hf : ∀ j, j < N → f j < N) (hy : Cy f N s0 n) (h : Cw f N s0 i t s c) (hi : i < N) (h0 : s0.getD i false = false) (hc : s.getD c false = true) (hinj : ∀ a b, a < N → b < N → f a = f b → a = b) : Cy f N s (n + 1) ∧ s.getD i false = true ∧ ∀ j, j < N → s0.getD j false = true → s.getD j false = true := by
 have hb := h.back hf hinj hy hi h0 hc; have ht := h.pos h0 hi hc; obtain ⟨lab, root, h1, h2⟩ := hy.ex; have him : s.getD i false = true := (h.mem i hi).2 (.inr ⟨0, ht, rfl⟩); refine ⟨?_, him, fun j hj h3 => (h.mem j hj).2 (.inl h3)⟩; refine ⟨h.len, fun j hj hs => ?_, fun j hj hs => ?_, fun j => if s0.getD j false = true then lab j else n, fun k => if k = n then i else root k, fun j hj hs => ?_, fun k hk => ?_⟩
 ·refine (h.mem _ (hf j hj)).2 ?_; rcases (h.mem j hj).1 hs with h3 | ⟨u, hu, e⟩
  ·exact .inl (hy.fwd j hj h3)
  rcases Nat.lt_or_ge (u + 1) t with h4 | h4
  ·exact .inr ⟨u + 1, h4, by rw [itr, e]⟩
  obtain rfl : t = u + 1 := by omega
  exact .inr ⟨0, ht, by rw [show itr f 0 i = i from rfl, ← e]; exact hb.symm⟩
 ·refine (h.mem _ hj).2 ?_; rcases (h.mem _ (hf j hj)).1 hs with h3 | ⟨u, hu, e⟩
  ·exact .inl (hy.bwd j hj h3)
  rcases Nat.eq_zero_or_pos u with rfl | hu0
  ·obtain ⟨r, rfl⟩ : ∃ r, t = r + 1 := ⟨t - 1, by omega⟩; refine .inr ⟨r, by omega, hinj _ _ (itr_lt hf hi r) hj ?_⟩; rw [← e]; exact hb
  obtain ⟨v, rfl⟩ : ∃ v, u = v + 1 := ⟨u - 1, by omega⟩; exact .inr ⟨v, by omega, hinj _ _ (itr_lt hf hi v) hj e⟩
 ·rcases (h.mem j hj).1 hs with h3 | ⟨u, hu, e⟩
  ·obtain ⟨a1, a2, u, a3⟩ := h1 j hj h3; have h4 := hy.fwd j hj h3; dsimp only
   rw [if_pos h3, if_pos h4, if_neg (by omega)]; exact ⟨by omega, a2, u, a3⟩
  have h3 : s0.getD j false = false := by rw [← e]; exact h.new u hu
  have h4 : s0.getD (f j) false = false := by
   cases h5 : s0.getD (f j) false with
   | false => rfl
   | true => rw [hy.bwd j hj h5] at h3; cases h3
  have h3' : ¬ s0.getD j false = true := by rw [h3]; simp
  have h4' : ¬ s0.getD (f j) false = true := by rw [h4]; simp
  dsimp only
  rw [if_neg h3', if_neg h4', if_pos rfl]; exact ⟨by omega, rfl, u, e⟩
 have h0' : ¬ s0.getD i false = true := by rw [h0]; simp
 dsimp only
 by_cases hkn : k = n
 ·rw [if_pos hkn, if_neg h0']; exact ⟨hi, hkn.symm, him⟩
 rw [if_neg hkn]; obtain ⟨b1, b2, b3⟩ := h2 k (by omega); rw [if_pos b3]; exact ⟨b1, b2, (h.mem _ b1).2 (.inl b3)⟩
theorem count_set_b : ∀ {s : List Bool} {c : Nat}, c < s.length → s.getD c false = false → (s.set c true).count false < s.count false
 | [], c, h, _ => by simp at h
 | b :: s, 0, _, h => by
  have : b = false := h; subst this; simp
 | b :: s, c + 1, h, h2 => by
  have := count_set_b (s := s) (c := c) (by simpa using h) (by simpa using h2); rw [List.set_cons_succ, List.count_cons, List.count_cons]; omega
theorem Cw.run (hf : ∀ j, j < N → f j < N) (hi : i < N) : ∀ (k : Nat) {s : List Bool} {t c : Nat}, s.count false ≤ k → Cw f N s0 i t s c → ∃ t s c, Cw f N s0 i t s c ∧ s.getD c false = true
 | k, s, t, c, hk, h => by
  cases hc : s.getD c false with
  | true => exact ⟨t, s, c, h, hc⟩
  | false =>
   have hcN : c < s.length := by rw [h.len, h.at_]; exact itr_lt hf hi t
   have hlt := count_set_b hcN hc
   match k with
   | 0 => omega | k + 1 => exact Cw.run hf hi k (by omega) (h.step hf hi hc)
theorem cyc_ex (hf : ∀ j, j < N → f j < N) (hinj : ∀ a b, a < N → b < N → f a = f b → a = b) : ∃ n, IsCyc f N n := by
 have key : ∀ i, i ≤ N → ∃ s n, Cy f N s n ∧ ∀ j, j < i → s.getD j false = true := by
  intro i
  induction i with
  | zero => intro _; exact ⟨_, _, Cy.start f N, fun j hj => by omega⟩
  | succ i ih =>
   intro hi; obtain ⟨s, n, hy, hs⟩ := ih (by omega)
   cases h0 : s.getD i false with
   | true =>
    refine ⟨s, n, hy, fun j hj => ?_⟩; rcases Nat.lt_or_ge j i with h | h
    ·exact hs j h
    obtain rfl : j = i := by omega
    exact h0
   | false =>
    obtain ⟨t, s', c, hw, hc⟩ := Cw.run hf (show i < N by omega) _ (Nat.le_refl _) (Cw.start (i := i) hy); obtain ⟨h1, h2, h3⟩ := hw.done hf hy (by omega) h0 hc hinj; refine ⟨s', n + 1, h1, fun j hj => ?_⟩; rcases Nat.lt_or_ge j i with h | h
    ·exact h3 j (by omega) (hs j h)
    obtain rfl : j = i := by omega
    exact h2
 obtain ⟨s, n, hy, hs⟩ := key N (Nat.le_refl _); exact ⟨n, hy.all hs⟩
end
def piM (W H : Int) (m : Mv) (j : Nat) : Nat := (cellM W H m j).toNat
def fixN (W H : Int) (K N : Nat) (m : Mv) : Nat := ((allC K N).filter fun xs => decide (apM W H m xs = xs)).length
def cyN (W H : Int) (N : Nat) (m : Mv) : Nat := Nat.log2 (fixN W H 2 N m)
section
variable {W H : Int} {ms : List Mv} {m : Mv} {xs : List Int} {K N n : Nat}
theorem pi_cell (h : Al W H m) (j : Nat) : ((piM W H m j : Nat) : Int) = cellM W H m j := Int.toNat_of_nonneg (cell_lt h j).1
theorem pi_lt (h : Al W H m) (hN : (N : Int) = W * H) : ∀ j, j < N → piM W H m j < N := fun j _ => by
 have h1 := cell_lt h j; have h2 := pi_cell h j; omega
theorem pi_inj (h : Al W H m) (hN : (N : Int) = W * H) : ∀ a b, a < N → b < N → piM W H m a = piM W H m b → a = b := fun a b ha hb e => by
 have h1 := inv_cell h (i := a) (by omega); have h2 := inv_cell h (i := b) (by omega); have h3 : cellM W H m a = cellM W H m b := by rw [← pi_cell h a, ← pi_cell h b, e]
 rw [h3, h2] at h1; omega
theorem kept_iff (h : Al W H m) (hl : xs.length = N) (hN : (N : Int) = W * H) : KeptBy (piM W H m) N xs ↔ apM W H m xs = xs := by
 have hl' : (xs.length : Int) = W * H := by rw [hl]; exact hN
 constructor
 ·intro hk; refine ext_getD (N := N) (by rw [apM_length, hl]) hl fun i hi => ?_
  have hc := cell_lt (inv_al h) (i : Int); obtain ⟨j, hj⟩ : ∃ j : Nat, (j : Int) = cellM W H (invM W H m) i := ⟨_, Int.toNat_of_nonneg hc.1⟩
  have e : piM W H m j = i := by
   have h1 := cell_inv h (i := i) (by omega); have h2 := pi_cell h j; rw [hj, h1] at h2; omega
  have hjN : j < N := by omega
  have h3 := apM_at h hl' (j := j) (by omega); have h4 := hk j hjN; rw [e] at h4; rw [show (cellM W H m j).toNat = i from e, Int.toNat_natCast] at h3; rw [h3, h4]
 intro e j hj; have h3 := apM_at h hl' (j := j) (by omega); rw [e, Int.toNat_natCast] at h3; exact h3
open Classical in
theorem fix_pow (h : Al W H m) (hN : (N : Int) = W * H) (hK : 0 < K) (hc : IsCyc (piM W H m) N n) : fixN W H K N m = K ^ n := by
 rw [← kept_count (pi_lt h hN) hK hc]; unfold fixN; congr 1
 refine List.filter_congr fun xs hx => ?_
 have h1 := kept_iff h ((mem_allC hK).1 hx).1 hN; by_cases e : apM W H m xs = xs
 ·rw [decide_eq_true e, decide_eq_true (h1.2 e)]
 rw [decide_eq_false e, decide_eq_false fun k => e (h1.1 k)]
theorem cyc_eq (h : Al W H m) (hN : (N : Int) = W * H) (hc : IsCyc (piM W H m) N n) : cyN W H N m = n := by
 unfold cyN; rw [fix_pow h hN (by omega) hc, Nat.log2_two_pow]
theorem fix_cy (h : Al W H m) (hN : (N : Int) = W * H) (hK : 0 < K) : fixN W H K N m = K ^ cyN W H N m := by
 obtain ⟨n, hn⟩ := cyc_ex (pi_lt h hN) (pi_inj h hN); rw [fix_pow h hN hK hn, cyc_eq h hN hn]
theorem cy_le (h : Al W H m) (hN : (N : Int) = W * H) : cyN W H N m ≤ N := by
 have h1 := fix_cy (K := 2) h hN (by omega)
 have h2 : fixN W H 2 N m ≤ 2 ^ N := by
  have h3 : (allC 2 N).length = 2 ^ N := by unfold allC; rw [List.length_map, List.length_range]
  rw [← h3]; exact List.length_filter_le _ _
 rw [h1] at h2; exact (Nat.pow_le_pow_iff_right (by omega)).1 h2
theorem burnside (g : Gp W H ms) (hs : sizeB W H = true) (hN : (N : Int) = W * H) (hK : 0 < K) (hK8 : K ≤ 8) : (ms.map fun m => K ^ cyN W H N m).sum = ms.length * (listL W H ms K N).length := by
 have e1 : (ms.map fun m => K ^ cyN W H N m) = ms.map fun m => ((allC K N).filter fun xs => decide (apM W H m xs = xs)).length := List.map_congr_left fun m hm => (fix_cy (g.al m hm) hN hK).symm
 rw [e1, sum_swap (fun m xs => decide (apM W H m xs = xs)) ms (allC K N)]; rw [← sum_fibersW (inferInstanceAs (DecidableEq (List Int))) (fun x => leastL W H x ms) (fun xs => (ms.filter fun m => decide (apM W H m xs = xs)).length) (listL_nodup W H ms N hK) (allC K N) (fun x hx => least_list g hs hN hK hK8 ((mem_allC hK).1 hx))]; refine sum_const _ fun z hz => ?_
 obtain ⟨hcz, hrz⟩ := (mem_listL hK).1 hz; have hvz := col_valid hs hN hK8 hcz; have hlz := (rep_iff g hvz).1 hrz; have hno : (orbL W H z ms).Nodup := (orb_rises W H z ms).imp (fun {a b} h e => by rw [e, cmpL_refl] at h; omega)
 have hmem : ∀ x, x ∈ (allC K N).filter (fun x => decide (leastL W H x ms = z)) → Col K N x ∧ orbL W H x ms = orbL W H z ms := fun x hx => by
  obtain ⟨h3, h4⟩ := List.mem_filter.1 hx; rw [decide_eq_true_eq] at h4; have hcx := (mem_allC hK).1 h3; have hvx := col_valid hs hN hK8 hcx; have hz2 : z ∈ orbL W H x ms := by rw [← h4]; exact least_mem (List.length_pos_of_mem g.one)
  exact ⟨hcx, (orb_orb g hvx hz2).symm⟩
 have hlen : ((allC K N).filter (fun x => decide (leastL W H x ms = z))).length = (orbL W H z ms).length := by
  refine same_len (inferInstanceAs (DecidableEq (List Int))) ((allC_nodup hK).filter _) hno fun x => ⟨fun hx => ?_, fun hx => ?_⟩
  ·obtain ⟨hcx, e⟩ := hmem x hx; rw [← e]; exact orb_self g (col_valid hs hN hK8 hcx)
  refine List.mem_filter.2 ⟨(mem_allC hK).2 (orb_col g hN hcz hx), ?_⟩; rw [decide_eq_true_eq, orb_least g hvz hx, hlz]
 have hpos : 0 < (orbL W H z ms).length := List.length_pos_of_mem (orb_self g hvz)
 have hsum : ∀ L : List (List Int), (∀ x ∈ L, (ms.filter fun m => decide (apM W H m x = x)).length * (orbL W H z ms).length = ms.length) → (L.map fun xs => (ms.filter fun m => decide (apM W H m xs = xs)).length).sum * (orbL W H z ms).length = ms.length * L.length := by
  intro L
  induction L with
  | nil => intro _; simp
  | cons x L ih =>
   intro h; rw [List.map_cons, List.sum_cons, Nat.add_mul, ih (fun y hy => h y (by simp [hy])), h x (by simp), List.length_cons, Nat.mul_add, Nat.mul_one]; omega
 have h5 := hsum _ (fun x hx => by
  obtain ⟨hcx, e⟩ := hmem x hx; rw [← e]
  exact orbit_stab g (col_valid hs hN hK8 hcx))
 rw [hlen] at h5; exact Nat.eq_of_mul_eq_mul_right hpos h5
end
section
variable {W H : Int} {l o : List Mv} {i : Nat} {x y z m n : Mv}
theorem add_mem (n : Mv) (o : List Mv) : n ∈ addM n o := by
 unfold addM; split
 ·next h => exact memB_iff.1 h
 simp
theorem add_cases (h : y ∈ addM n o) : y ∈ o ∨ y = n := by
 unfold addM at h; split at h
 ·exact .inl h
 rcases List.mem_append.1 h with h | h
 ·exact .inl h
 exact .inr (List.mem_singleton.1 h)
theorem inn_new : ∀ {l o : List Mv}, m ∈ l → aftM W H m x ∈ innB W H x l o
 | a :: l, o, h => by
  show aftM W H m x ∈ innB W H x l (addM (aftM W H a x) o); rcases List.mem_cons.1 h with rfl | h
  ·exact (inn_pre x l _).subset (add_mem _ _)
  exact inn_new h
theorem inn_cases : ∀ {l o : List Mv}, y ∈ innB W H x l o → y ∈ o ∨ ∃ m, m ∈ l ∧ y = aftM W H m x
 | [], o, h => .inl h
 | a :: l, o, h => by
  rcases inn_cases (l := l) (o := addM (aftM W H a x) o) h with h | ⟨m, hm, e⟩
  ·rcases add_cases h with h | h
   ·exact .inl h
   exact .inr ⟨a, by simp, h⟩
  exact .inr ⟨m, by simp [hm], e⟩
theorem Bfs.closed (h : Bfs W H l i o) : ∀ (j : Nat) (x : Mv), j < i → o[j]? = some x → ∀ m ∈ l, aftM W H m x ∈ o := by
 induction h with
 | start => intro j x hj; omega
 | step h hx ih =>
  rename_i i o x
  intro j y hj hy m hm; have hl := (List.getElem?_eq_some_iff.1 hx).1; obtain ⟨t, ht⟩ := inn_pre (W := W) (H := H) x l o; rw [← ht, List.getElem?_append_left (by omega)] at hy; by_cases hji : j < i
  ·exact (inn_pre x l o).subset (ih j y hji hy m hm)
  obtain rfl : j = i := by omega
  rw [hx] at hy; rw [← Option.some.inj hy]; exact inn_new hm
theorem Bfs.gen (h : Bfs W H l i o) (P : Mv → Prop) (h0 : P ⟨0, 0, 0, false⟩) (hs : ∀ m ∈ l, ∀ x, P x → P (aftM W H m x)) : ∀ y ∈ o, P y := by
 induction h with
 | start => intro y hy; rw [List.mem_singleton.1 hy]; exact h0
 | step h hx ih =>
  intro y hy; rcases inn_cases hy with hy | ⟨m, hm, rfl⟩
  ·exact ih y hy
  exact hs m hm _ (ih _ (List.mem_of_getElem? hx))
theorem Bfs.one (h : Bfs W H l i o) : (⟨0, 0, 0, false⟩ : Mv) ∈ o := by
 induction h with
 | start => simp
 | step h hx ih => exact (inn_pre _ l _).subset ih
theorem Bfs.mul (h0 : Al W H ⟨0, 0, 0, false⟩) (hl : ∀ m ∈ l, Al W H m) (h : Bfs W H l i o) (hi : o.length = i) : ∀ y ∈ o, ∀ z ∈ o, aftM W H y z ∈ o := by
 have hok := h.ok h0 hl
 have hc : ∀ x ∈ o, ∀ m ∈ l, aftM W H m x ∈ o := fun x hx m hm => by
  obtain ⟨j, hj⟩ := List.mem_iff_getElem?.1 hx; exact h.closed j x (by rw [← hi]; exact (List.getElem?_eq_some_iff.1 hj).1) hj m hm
 intro y hy z hz; refine (h.gen (fun y => Al W H y ∧ aftM W H y z ∈ o) ⟨h0, by rw [zero_aft (hok.al z hz)]; exact hz⟩ (fun m hm x hx => ?_) y hy).2; exact ⟨aft_al (hl m hm) hx.1, by rw [aft_assoc (hl m hm) hx.1 (hok.al z hz)]; exact hc _ hx.2 m hm⟩
end
theorem close_gB {W H : Nat} {l : List Mv} (hs : sizeB W H = true) (hl : ∀ m ∈ l, Al W H m) : gB W H (closeL W H l) = true := by
 have h0 := zero_al hs; obtain ⟨o, ho⟩ := bfs_ex hs h0 hl; have e : closeL W H l = (mvs1 W H 2).filter fun x => memB x o := by unfold closeL; rw [bfsL_eq ho rfl]
 have hm : ∀ x, x ∈ closeL W H l ↔ x ∈ o := fun x => by
  rw [e, List.mem_filter, mem_moves hs, memB_iff]; exact ⟨fun h => h.2, fun h => ⟨(ho.ok h0 hl).al x h, h⟩⟩
 rw [gB_iff hs]; refine ⟨fun i hi => ?_, ?_, ?_, fun i j hi hj => ?_⟩
 ·exact (ho.ok h0 hl).al _ ((hm _).1 (List.mem_of_getElem? (at_nthM hi)))
 ·rw [e]; exact (rise_num hs).filter _
 ·exact memB_iff.2 ((hm _).2 ho.one)
 exact memB_iff.2 ((hm _).2 (ho.mul h0 hl rfl _ ((hm _).1 (List.mem_of_getElem? (at_nthM hi))) _ ((hm _).1 (List.mem_of_getElem? (at_nthM hj)))))
def rdg (K : Nat) : Nat → Nat → List Int
 | 0, _ => []
 | N + 1, n => ((n % K : Nat) : Int) :: rdg K N (n / K)
theorem rdg_rev (K : Nat) : ∀ N n, rdg K N n = (dgs K N n).reverse
 | 0, _ => rfl
 | N + 1, n => by
  rw [rdg, dgs, List.reverse_append, rdg_rev K N]; rfl
theorem rdg_len (K N n : Nat) : (rdg K N n).length = N := by rw [rdg_rev, List.length_reverse, dgs_len]
theorem rdg_col {K : Nat} (hK : 0 < K) (N n : Nat) : Col K N (rdg K N n) := by
 have h := dgs_col hK N n; rw [rdg_rev]; exact ⟨by rw [List.length_reverse]; exact h.1, fun x hx => h.2 x (List.mem_reverse.1 hx)⟩
theorem rdg_snoc (K : Nat) : ∀ j n, rdg K (j + 1) n = rdg K j n ++ [((n / K ^ j % K : Nat) : Int)]
 | 0, n => by simp [rdg]
 | j + 1, n => by
  rw [rdg, rdg_snoc K j (n / K), rdg, List.cons_append, Nat.div_div_eq_div_mul, Nat.pow_succ, Nat.mul_comm]
theorem count_least {W H : Int} {ms : List Mv} {K N : Nat} (g : Gp W H ms) (hs : sizeB W H = true) (hN : (N : Int) = W * H) (hK : 0 < K) (hK8 : K ≤ 8) :
  ((List.range (K ^ N)).filter fun k => decide (leastL W H (rdg K N k) ms = rdg K N k)).length = (listL W H ms K N).length := by
 have e1 : ((List.range (K ^ N)).filter fun k => decide (leastL W H (rdg K N k) ms = rdg K N k)).length = (((allC K N).map List.reverse).filter fun z => decide (leastL W H z ms = z)).length := by
  unfold allC; rw [List.map_map, List.filter_map, List.length_map]; congr 1
  refine List.filter_congr fun k _ => ?_
  show _ = decide (leastL W H (dgs K N k).reverse ms = (dgs K N k).reverse); rw [rdg_rev]
 rw [e1]; refine same_len (inferInstanceAs (DecidableEq (List Int))) ((nodup_map (allC_nodup hK) fun a _ b _ e => List.reverse_inj.1 e).filter _) (listL_nodup W H ms N hK) fun z => ?_
 have hcol : z ∈ (allC K N).map List.reverse ↔ Col K N z := by
  rw [List.mem_map]; constructor
  ·rintro ⟨y, hy, rfl⟩; have h := (mem_allC hK).1 hy; exact ⟨by rw [List.length_reverse]; exact h.1, fun x hx => h.2 x (List.mem_reverse.1 hx)⟩
  intro h; exact ⟨z.reverse, (mem_allC hK).2 ⟨by rw [List.length_reverse]; exact h.1, fun x hx => h.2 x (List.mem_reverse.1 hx)⟩, List.reverse_reverse z⟩
 rw [List.mem_filter, hcol, mem_listL hK, decide_eq_true_eq]; exact ⟨fun ⟨h1, h2⟩ => ⟨h1, (rep_iff g (col_valid hs hN hK8 h1)).2 h2⟩, fun ⟨h1, h2⟩ => ⟨h1, (rep_iff g (col_valid hs hN hK8 h1)).1 h2⟩⟩
end Go.Proofs.YtddbmckbankmeaaGreat
set_option linter.unusedVariables false
set_option linter.unusedSimpArgs false
namespace Go.Proofs.YtddbmckbankmeaaGreat
open Go.RowKit
section
variable {P : Program} {ops : Array Oper} {Q : Exit → Act → World → Prop} {md : Region.Mode}
theorem wp_region_varr {id : Nat} (n1 : Nat) {l : List Oper} {a0 : Act} {w0 : World} (ds E AL M : List Nat) (KL : List (Nat × Nat)) (T : TypeId) (z : List Value) (V : Nat → Value → World → Prop) (C : Nat → World → Prop) (Rl : World → Prop) (hR0 : Rl w0) (hRt : ∀ w w', Rl w → Below w.heap.size w w' → Rl w') (hRs : ∀ w, Rl w → w0.heap.size ≤ w.heap.size)
  (hm : P.follows .mixedOrders = true) (hns : Region.noSelect l.toArray = true) (hB : phaseB l.toArray n1 E = true) (hF : freeB l.toArray E = true) (hD : VarB l n1 ds E AL T a0.tmps.size = true)
  (hCt : ∀ i ∈ E, ∀ j ∈ E, j ∈ edgesOf l.toArray i → ∀ w, C j w) (hC0 : ∀ i ∈ E, ∀ w, Rl w → C i w)
  (hz : ∀ w : World, (Instr.alloc T true (.tuple #[])).run P w = .ok (.pointer (some ⟨w.heap.size, 0, none⟩)) (w.alloc (.cells z.toArray T)))
  (hKA : ∀ j m, (j, m) ∈ KL → AL.contains j = false) (hKE : ∀ j m, (j, m) ∈ KL → ∀ i, i < n1 → ∀ o, l[i]? = some o → ∀ e ∈ o.after.toList, Region.binds .any e = true → e.on = j → i = m) (hME : ∀ i, M.contains i = true → AL.contains i = false)
  (hQ : ∀ d v c a w, Q (.panic c) (a.put d v) w → Q (.panic c) a w)
  (hV : ∀ i v w w', V i v w → Below w.heap.size w w' → V i v w')
  (hop : ∀ i, i < n1 → AL.contains i = false → ∀ a w, Rl w → (M = [i] → Below w0.heap.size w0 w) → (∀ t, ds.contains t = false → a.eval (.tmp t) = a0.eval (.tmp t)) → Deps l ds AL V i a w →
   match l[i]? with | none => True | some o => if E.contains i then ∃ v, (∀ w, C i w → (execOp a.eval o).run P w = .ok (.value v) w) ∧ V i v w else if M.contains i then o.wp P a w (fun a' w' => ∃ v, a' = a.put (some (ds.getD i 0)) v ∧ Rl w' ∧ V i v w' ∧ ∀ j, j < n1 → j ≠ i → (j, i) ∉ KL → (∀ o, l[j]? = some o → ∀ e ∈ o.after.toList, Region.binds .any e = true → e.on ≠ i) → ∀ u, (fun i v w => if AL.contains i then ∃ g, v = .pointer (some ⟨g, 0, none⟩) ∧ w0.heap.size ≤ g ∧ Blk w g T z else V i v w : Nat → Value → World → Prop) j u w → (fun i v w => if AL.contains i then ∃ g, v = .pointer (some ⟨g, 0, none⟩) ∧ w0.heap.size ≤ g ∧ Blk w g T z else V i v w : Nat → Value → World → Prop) j u w') Q else o.wp P a w (Post a w (ds.getD i 0) (V i)) Q)
  (hend : ∀ (vs : Nat → Value) (w : World), Rl w → (∀ i, i < n1 → AL.contains i = false → (∀ m, (i, m) ∉ KL) → V i (vs (ds.getD i 0)) w) →
   (∀ i, AL.contains i = true → ∃ g, vs (ds.getD i 0) = .pointer (some ⟨g, 0, none⟩) ∧ w0.heap.size ≤ g ∧ Blk w g T z) → (∀ i j, AL.contains i = true → AL.contains j = true → i ≠ j → vs (ds.getD i 0) ≠ vs (ds.getD j 0)) → wpListS P l.toArray Q E C n1 (l.drop n1) (putAll a0 ds vs) w) :
  (Code.region id l.toArray true).wp P Q a0 w0 := by
 unfold VarB at hD; simp only [Bool.and_eq_true, decide_eq_true_eq, List.all_eq_true, List.mem_range] at hD; obtain ⟨⟨⟨⟨⟨⟨hdl, hnl⟩, hdt⟩, hnd⟩, hEE⟩, hAA⟩, hops⟩ := hD
 have hop1 : ∀ i, i < n1 → ∃ o, l[i]? = some o ∧ o.dst = some (ds.getD i 0) ∧ o.guard = none ∧ (AL.contains i = true → o.op = .alloc T) := by
  intro i hi; have h := hops i hi
  cases ho : l[i]? with
  | none => rw [ho] at h; cases h
  | some o =>
   rw [ho] at h; simp only [Bool.and_eq_true, decide_eq_true_eq, Bool.or_eq_true, Bool.not_eq_true', Option.isNone_iff_eq_none] at h; refine ⟨o, rfl, h.1.1, h.1.2, fun hA => ?_⟩; rcases h.2 with h2 | h2
   ·rw [hA] at h2; cases h2
   revert h2
   cases o.op <;> simp
 have hdi : ∀ i, i < n1 → ds.getD i 0 < a0.tmps.size := by
  intro i hi
  have : ds.getD i 0 ∈ ds := by
   rw [List.getD_eq_getElem?_getD, List.getElem?_eq_getElem (by omega)]; exact List.getElem_mem _
  exact hdt _ this
 let F : Nat → Value → World → Prop := fun i v w => if AL.contains i then ∃ g, v = .pointer (some ⟨g, 0, none⟩) ∧ w0.heap.size ≤ g ∧ Blk w g T z else V i v w
 have hFs : ∀ i v w w', F i v w → Below w.heap.size w w' → F i v w' := by
  intro i v w w' h hb; show if _ then _ else _
  have h' : if _ then _ else _ := h
  split at h'
  ·next hA =>
   rw [if_pos hA]; obtain ⟨g, h1, h2, h3⟩ := h'; exact ⟨g, h1, h2, h3.to hb⟩
  next hA => rw [if_neg hA]; exact hV _ _ _ _ h' hb
 let I : Array Bool → Act → World → Prop := fun L a w => Rl w ∧ L.size = l.length ∧ a.defers = a0.defers ∧ a.tmps.size = a0.tmps.size ∧ (∀ t, t ∉ ds → a0.tmps[t]? = a.tmps[t]?) ∧
  (∀ i, i < n1 → L.getD i false = true → (∀ m, (i, m) ∈ KL → L.getD m false = false) → F i (a.eval (.tmp (ds.getD i 0))) w) ∧
  (∀ i j, AL.contains i = true → AL.contains j = true → i ≠ j → L.getD i false = true → L.getD j false = true → a.eval (.tmp (ds.getD i 0)) ≠ a.eval (.tmp (ds.getD j 0))) ∧
  (∀ j o, j < n1 → L.getD j false = true → l[j]? = some o → ∀ e ∈ o.after.toList, Region.binds .any e = true → L.getD e.on false = true) ∧
  ((∀ m, M.contains m = true → L.getD m false = false) → Below w0.heap.size w0 w)
 have hAlt : ∀ i, AL.contains i = true → i < n1 := fun i h => hAA i (by simpa using h)
 have hrf : ∀ L : Array Bool, L.size = l.length → ∀ i, i ∈ Region.ready .any l.toArray L → L.getD i false = false := fun L hs i h => by
  have := ready_get (by simpa using hs) h; simp only [Array.getElem?_toList] at this; simp [Array.getD_eq_getD_getElem?, this]
 have key : ∀ L a w i v w', I L a w → i < n1 → Rl w' → (∀ j, j < n1 → j ≠ i → (j, i) ∉ KL → (∀ o, l[j]? = some o → ∀ e ∈ o.after.toList, Region.binds .any e = true → e.on ≠ i) → ∀ u, F j u w → F j u w') → i ∈ Region.ready .any l.toArray L → (M.contains i = true ∨ Below w.heap.size w w') → F i v w' → (AL.contains i = true → ∀ j, AL.contains j = true → i ≠ j → L.getD j false = true → v ≠ a.eval (.tmp (ds.getD j 0))) → I (L.setIfInBounds i true) (a.put (some (ds.getD i 0)) v) w' := by
  intro L a w i v w' ⟨hb, hsz, hdf, hts, hot, hf, hne, hcl, hbm⟩ hi hb0 hpres hrdy hnb hv hd; refine ⟨hb0, by simp [hsz], hdf, by simp [Act.put, hts], fun t ht => ?_, fun j hj hL hkl => ?_, fun j k hj hk hjk hLj hLk => ?_, fun j o hj hLj ho e he hbd => ?_, fun hmm => ?_⟩
  ·have : ds.getD i 0 ≠ t := fun e => ht (by rw [← e, List.getD_eq_getElem?_getD, List.getElem?_eq_getElem (by omega)]; exact List.getElem_mem _)
   show _ = (a.tmps.setIfInBounds _ _)[t]?; rw [Array.getElem?_setIfInBounds_ne this]; exact hot t ht
  ·by_cases hij : j = i
   ·subst hij; rw [eval_put_same (by rw [hts]; exact hdi _ hi)]; exact hv
   rw [eval_put_other (nodup_ne hnd (by omega) (by omega) (Ne.symm hij))]; rw [set_getD _ (by omega), if_neg hij] at hL; refine hpres j hj hij (fun hk => ?_) (fun o ho e he hbd hon => ?_) _ (hf j hj hL (fun m hm => ?_))
   ·have h9 := hkl i hk; rw [set_getD _ (by omega), if_pos rfl] at h9; cases h9
   ·have h9 := hcl j o hj hL ho e he hbd; rw [hon, hrf L hsz i hrdy] at h9; cases h9
   have h9 := hkl m hm; rw [set_getD _ (by omega)] at h9; split at h9
   ·cases h9
   exact h9
  ·have hjn := hAlt j hj; have hkn := hAlt k hk; by_cases hji : j = i
   ·subst hji; rw [eval_put_same (by rw [hts]; exact hdi _ hi), eval_put_other (nodup_ne hnd (by omega) (by omega) hjk)]; rw [set_getD _ (by omega), if_neg (Ne.symm hjk)] at hLk; exact hd hj k hk hjk hLk
   by_cases hki : k = i
   ·subst hki; rw [eval_put_same (by rw [hts]; exact hdi _ hi), eval_put_other (nodup_ne hnd (by omega) (by omega) (Ne.symm hji))]; rw [set_getD _ (by omega), if_neg hji] at hLj; exact Ne.symm (hd hk j hj (Ne.symm hjk) hLj)
   rw [eval_put_other (nodup_ne hnd (by omega) (by omega) (Ne.symm hji)), eval_put_other (nodup_ne hnd (by omega) (by omega) (Ne.symm hki))]; rw [set_getD _ (by omega), if_neg hji] at hLj; rw [set_getD _ (by omega), if_neg hki] at hLk; exact hne j k hj hk hjk hLj hLk
  ·obtain ⟨_, o', ho', hall⟩ := mem_ready.1 hrdy; rw [set_getD _ (by omega)]; by_cases hei : e.on = i
   ·rw [if_pos hei]
   rw [if_neg hei]; by_cases hji : j = i
   ·subst hji; have : o' = o := by simpa [ho] using ho'.symm
    subst this; exact hall e (by simpa using he) hbd
   rw [set_getD _ (by omega), if_neg hji] at hLj; exact hcl j o hj hLj ho e he hbd
  rcases hnb with h | h
  ·have h9 := hmm i h; rw [set_getD _ (by omega), if_pos rfl] at h9; cases h9
  refine below_then (hbm fun m hM => ?_) (hRs _ hb) h; have h9 := hmm m hM; rw [set_getD _ (by omega)] at h9; split at h9
  ·cases h9
  exact h9
 have hpre : ∀ L a w i o, I L a w → i < n1 → i ∈ Region.ready .any l.toArray L → l[i]? = some o → (∀ t, ds.contains t = false → a.eval (.tmp t) = a0.eval (.tmp t)) ∧ Deps l ds AL V i a w := by
  intro L a w i o ⟨hb, hsz, hdf, hts, hot, hf, hne, hcl, hbm⟩ hi hr ho; obtain ⟨_, o', ho', hall⟩ := mem_ready.1 hr; have : o' = o := by simpa [ho] using ho'.symm
  subst this; refine ⟨fun t ht => ?_, fun j hj => ?_⟩
  ·have := hot t (by simpa using ht); show a.tmps.getD t undef = a0.tmps.getD t undef; simp only [Array.getD_eq_getD_getElem?, this]
  rw [ho] at hj; simp only [Option.map_some, Option.getD_some, Bool.and_eq_true, Bool.not_eq_true', List.any_eq_true, decide_eq_true_eq] at hj; obtain ⟨⟨e, he, hbd, heq⟩, hA⟩ := hj; have hj1 : j < i := by rw [← heq]; exact (phaseB_back hB ho').1 e (by simpa using he) hbd
  have h1 := hf j (by omega) (by rw [← heq]; exact hall e (by simpa using he) hbd) (fun m hm => by rw [← hKE j m hm i hi o' ho e he hbd heq]; exact hrf L hsz i hr); have h2 : if AL.contains j then _ else _ := h1
  rw [if_neg (by rw [hA]; simp)] at h2; exact h2
 refine wp_region_phase (n1 := n1) E C hm hns hB hF (fun i hi => by have := hEE i hi; simp at this; exact this.1) hCt hnl hQ I ?_ (fun L a w h i hi => hC0 i hi w h.1) ?_ ?_ ?_
 ·refine ⟨hRt _ _ hR0 (below_drew (Below.refl _ _)), by simp, rfl, rfl, fun _ _ => rfl, fun i hi hL _ => ?_, fun i j _ _ _ hL _ => ?_, fun j o _ hL => ?_, fun _ => below_drew (Below.refl _ _)⟩
  ·rw [rep_getD] at hL; cases hL
  ·rw [rep_getD] at hL; cases hL
  rw [rep_getD] at hL; cases hL
 ·intro L a w i o hI hi hr ho; have hEi := hEE i hi; simp only [Bool.and_eq_true, decide_eq_true_eq, Bool.not_eq_true'] at hEi; obtain ⟨h1, h2⟩ := hpre L a w i o hI hEi.1 hr ho; have h3 := hop i hEi.1 hEi.2 a w hI.1 (fun hMi => hI.2.2.2.2.2.2.2.2 fun m hm => by rw [hMi] at hm; rw [show m = i by simpa using hm]; exact hrf L hI.2.1 i hr) h1 h2; rw [ho] at h3; simp only at h3; rw [if_pos (by simpa using hi)] at h3; obtain ⟨v, hy, hv⟩ := h3; obtain ⟨o', ho', hdst, hg, _⟩ := hop1 i hEi.1; have : o' = o := by rw [ho] at ho'; exact (Option.some.inj ho').symm
  subst this; refine ⟨v, .inl ⟨by simp [Region.wanted, hg], hy⟩, ?_⟩; rw [hdst]; exact key L a w i v w hI hEi.1 hI.1 (fun _ _ _ _ _ _ hu => hu) hr (.inr (Below.refl _ _)) (by show if _ then _ else _; rw [if_neg (by rw [hEi.2]; simp)]; exact hv) (fun h => by rw [hEi.2] at h; cases h)
 ·intro L a w i hI hi hE hr; obtain ⟨o, ho, hdst, hg, hal⟩ := hop1 i hi; obtain ⟨h1, h2⟩ := hpre L a w i o hI hi hr ho; unfold wpOp; have ho2 : l.toArray[i]? = some o := by simpa using ho
  rw [ho2]; simp only; rw [if_pos (by simp [Region.wanted, hg])]; refine .inl ?_; by_cases hA : AL.contains i = true
  ·unfold Oper.wp execOp; simp only [hal hA, Sem.run_bind, hz, Result.andThen_ok, Sem.run_pure, Oper.upon, hdst]; refine key L a w i _ _ hI hi (hRt _ _ hI.1 (below_alloc (Below.refl _ _) _)) (fun j _ _ _ _ u hu => hFs j u _ _ hu (below_alloc (Below.refl _ _) _)) hr (.inr (below_alloc (Below.refl _ _) _)) ?_ ?_
   ·show if _ then _ else _
    rw [if_pos hA]; exact ⟨_, rfl, hRs _ hI.1, heap_alloc_new _ _⟩
   intro _ j hj hij hL; have h3 : if AL.contains j then _ else _ := hI.2.2.2.2.2.1 j (hAlt j hj) hL (fun m hm => by rw [hKA j m hm] at hj; cases hj)
   rw [if_pos hj] at h3; obtain ⟨g, hg1, _, hg2⟩ := h3; rw [hg1]; intro he; have := hg2.lt; injection he with he
   injection he with he
   injection he with he
   omega
  have hA' : AL.contains i = false := by simpa using hA
  have h3 := hop i hi hA' a w hI.1 (fun hMi => hI.2.2.2.2.2.2.2.2 fun m hm => by rw [hMi] at hm; rw [show m = i by simpa using hm]; exact hrf L hI.2.1 i hr) h1 h2; rw [ho] at h3; simp only at h3; rw [if_neg (by simpa using hE)] at h3; by_cases hM : M.contains i = true
  ·rw [if_pos hM] at h3; refine Oper.wp_mono (fun a' w' h => ?_) h3; obtain ⟨v, rfl, hb0, hv, hpres⟩ := h; exact key L a w i v w' hI hi hb0 hpres hr (.inl hM) (by show if _ then _ else _; rw [if_neg hA]; exact hv) (fun h => absurd h hA)
  rw [if_neg hM] at h3; refine Oper.wp_mono (fun a' w' h => ?_) h3; obtain ⟨v, rfl, hb', hv⟩ := h; exact key L a w i v w' hI hi (hRt _ _ hI.1 hb') (fun j _ _ _ _ u hu => hFs j u _ _ hu hb') hr (.inr hb') (by show if _ then _ else _; rw [if_neg hA]; exact hv) (fun h => absurd h hA)
 intro L a w hI hall; obtain ⟨hb, hsz, hdf, hts, hot, hf, hne, hcl, hbm⟩ := hI; have he := putAll_eq (a := a) ds a0 hdf.symm hts.symm (fun d hd => by rw [hts]; exact hdt d hd) hot; rw [← he]; refine hend (fun t => a.eval (.tmp t)) w hb (fun i hi hA hK => ?_) (fun i hA => ?_) (fun i j hi hj hij => hne i j hi hj hij (hall i (hAlt i hi)) (hall j (hAlt j hj)))
 ·have h3 : if AL.contains i then _ else _ := hf i hi (hall i hi) (fun m hm => absurd hm (hK m))
  rw [if_neg (by rw [hA]; simp)] at h3; exact h3
 have h3 : if AL.contains i then _ else _ := hf i (hAlt i hA) (hall i (hAlt i hA)) (fun m hm => by rw [hKA i m hm] at hA; cases hA)
 rw [if_pos hA] at h3; exact h3
end
section
variable {Q : Exit → Act → World → Prop} {id : Nat} {l : List Oper} {a0 : Act} {w0 : World}
theorem wp_region_vr (n1 : Nat) (ds E AL M : List Nat) (KL : List (Nat × Nat)) (T : TypeId) (z : List Value) (Vs : List SP) (Rl : World → Prop) (hR0 : Rl w0) (hRt : ∀ w w', Rl w → Below w.heap.size w w' → Rl w') (hRs : ∀ w, Rl w → w0.heap.size ≤ w.heap.size)
  (hns : Region.noSelect l.toArray = true) (hB : phaseB l.toArray n1 E = true) (hF : freeB l.toArray E = true) (hD : VarB l n1 ds E AL T a0.tmps.size = true)
  (hz : ∀ w : World, (Instr.alloc T true (.tuple #[])).run Tryz.prog w = .ok (.pointer (some ⟨w.heap.size, 0, none⟩)) (w.alloc (.cells z.toArray T)))
  (hKA : ∀ j m, (j, m) ∈ KL → AL.contains j = false) (hKE : ∀ j m, (j, m) ∈ KL → ∀ i, i < n1 → ∀ o, l[i]? = some o → ∀ e ∈ o.after.toList, Region.binds .any e = true → e.on = j → i = m) (hME : ∀ i, M.contains i = true → AL.contains i = false)
  (hQ : ∀ d v c a w, Q (.panic c) (a.put d v) w → Q (.panic c) a w)
  (hop : ∀ i, i < n1 → AL.contains i = false → ∀ a w, Rl w → (M = [i] → Below w0.heap.size w0 w) → (∀ t, ds.contains t = false → a.eval (.tmp t) = a0.eval (.tmp t)) → Deps l ds AL (vp Vs) i a w →
   match l[i]? with | none => True | some o => if E.contains i then ∃ v, (∀ w, (execOp a.eval o).run Tryz.prog w = .ok (.value v) w) ∧ vp Vs i v w else if M.contains i then o.wp Tryz.prog a w (fun a' w' => ∃ v, a' = a.put (some (ds.getD i 0)) v ∧ Rl w' ∧ vp Vs i v w' ∧ ∀ j, j < n1 → j ≠ i → (j, i) ∉ KL → (∀ o, l[j]? = some o → ∀ e ∈ o.after.toList, Region.binds .any e = true → e.on ≠ i) → ∀ u, FV AL T z w0.heap.size Vs j u w → FV AL T z w0.heap.size Vs j u w') Q else o.wp Tryz.prog a w (Post a w (ds.getD i 0) (vp Vs i)) Q)
  (hend : ∀ (vs : Nat → Value) (w : World), Rl w → (∀ i, i < n1 → AL.contains i = false → (∀ m, (i, m) ∉ KL) → vp Vs i (vs (ds.getD i 0)) w) →
   (∀ i, AL.contains i = true → ∃ g, vs (ds.getD i 0) = .pointer (some ⟨g, 0, none⟩) ∧ w0.heap.size ≤ g ∧ Blk w g T z) → (∀ i j, AL.contains i = true → AL.contains j = true → i ≠ j → vs (ds.getD i 0) ≠ vs (ds.getD j 0)) → wpList Tryz.prog l.toArray Q (l.drop n1) (putAll a0 ds vs) w) :
  (Code.region id l.toArray true).wp Tryz.prog Q a0 w0 := by
 refine wp_region_varr n1 ds E AL M KL T z (vp Vs) (fun _ _ => True) Rl hR0 hRt hRs mixed_ hns hB hF hD (fun _ _ _ _ _ _ => trivial) (fun _ _ _ _ => trivial) hz hKA hKE hME hQ (fun i v w w' h hb => (Vs.getD i SP.any).st v w w' h hb) ?_ (fun vs w h1 h2 h3 h4 => wpListS_plain _ _ _ _ (fun _ _ _ => trivial) (hend vs w h1 h2 h3 h4)); intro i hi hA a w hb hbM hs hd; have h := hop i hi hA a w hb hbM hs hd
 cases ho : l[i]? with
 | none => trivial
 | some o =>
  rw [ho] at h; simp only at h ⊢; split at h
  ·next h1 =>
   rw [if_pos h1]; obtain ⟨v, h2, h3⟩ := h; exact ⟨v, fun w _ => h2 w, h3⟩
  next h1 =>
  rw [if_neg h1]; exact h
end
end Go.Proofs.YtddbmckbankmeaaGreat
