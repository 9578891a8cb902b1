/- Part 16 of the texts behind this claim. -/
import Derived.Maps.RangeWalk
import Derived.Deep.AppendLies
import Derived.Test.YtddbmckbankmeaaKa1
import Derived.Test.YtddbmckbankmeaaKa8
import Derived.Test.YtddbmckbankmeaaKa10
import Derived.Test.YtddbmckbankmeaaKa12
import Derived.Test.YtddbmckbankmeaaKa14
import Derived.Test.YtddbmckbankmeaaKa15
set_option linter.unusedVariables false
set_option linter.unusedSimpArgs false
namespace Go.Proofs.Ytddbmckbankmeaa
open Go.RowKit
theorem lex_lt {H a b x y : Int} (hx : 0 ≤ x ∧ x < H) (hy : 0 ≤ y ∧ y < H) : a * H + x < b * H + y ↔ a < b ∨ (a = b ∧ x < y) := by
  rcases Int.lt_trichotomy a b with h | h | h
  · have := Int.mul_le_mul_of_nonneg_right (show a + 1 ≤ b by omega) (show 0 ≤ H by omega)
    rw [Int.add_mul, Int.one_mul] at this
    omega
  · subst h
    omega
  have := Int.mul_le_mul_of_nonneg_right (show b + 1 ≤ a by omega) (show 0 ≤ H by omega)
  rw [Int.add_mul, Int.one_mul] at this
  omega
theorem cmpI_lt (x y : Int) : (x < y ∧ cmpI x y = -1) ∨ (x = y ∧ cmpI x y = 0) ∨ (y < x ∧ cmpI x y = 1) := by
  unfold cmpI
  split
  · omega
  split <;> omega
theorem ord_lt (a b : Mv) : ordM a b < 0 ↔ (a.f = false ∧ b.f = true) ∨ (a.f = b.f ∧ (a.t < b.t ∨ (a.t = b.t ∧ (a.x < b.x ∨ (a.x = b.x ∧ a.y < b.y))))) := by
  unfold ordM
  simp only [orL]
  rcases cmpI_lt a.t b.t with ⟨h1, e1⟩ | ⟨h1, e1⟩ | ⟨h1, e1⟩ <;> rcases cmpI_lt a.x b.x with ⟨h2, e2⟩ | ⟨h2, e2⟩ | ⟨h2, e2⟩ <;> rcases cmpI_lt a.y b.y with ⟨h3, e3⟩ | ⟨h3, e3⟩ | ⟨h3, e3⟩ <;> rw [e1, e2, e3] <;> cases a.f <;> cases b.f <;> simp <;> omega
theorem ord_num {W H : Int} {a b : Mv} (h : Al W H a) (k : Al W H b) : ordM a b < 0 ↔ numM W H a < numM W H b := by
  have h1 := num_low h
  have k1 := num_low k
  have e1 := lex_lt (H := H) (a := a.t * W + a.x) (b := b.t * W + b.x) h.y k.y
  have e2 := lex_lt (H := W) (a := a.t) (b := b.t) h.x k.x
  have e3 : a.t * W + a.x = b.t * W + b.x ↔ a.t = b.t ∧ a.x = b.x := ⟨fun e => num_digits (W := W) h.x k.x e, fun ⟨e, f⟩ => by rw [e, f]⟩
  rw [ord_lt]
  unfold numM
  cases hf : a.f <;> cases hg : b.f <;> simp <;> omega
theorem rising_eq (f : Mv → Int) : ∀ (l m : List Mv), l.Pairwise (fun a b => f a < f b) → m.Pairwise (fun a b => f a < f b) → (∀ x, x ∈ l ↔ x ∈ m) → l = m
  | [], [], _, _, _ => rfl
  | [], b :: m, _, _, h => by have := (h b).2 (List.mem_cons_self ..); cases this
  | a :: l, [], _, _, h => by have := (h a).1 (List.mem_cons_self ..); cases this
  | a :: l, b :: m, h1, h2, h => by
    rw [List.pairwise_cons] at h1 h2
    have hab : a = b := by
      rcases List.mem_cons.1 ((h a).1 (List.mem_cons_self ..)) with e | e
      · exact e
      rcases List.mem_cons.1 ((h b).2 (List.mem_cons_self ..)) with e' | e'
      · exact e'.symm
      have := h1.1 b e'
      have := h2.1 a e
      omega
    subst hab
    have hm : ∀ x, x ∈ l ↔ x ∈ m := by
      intro x
      constructor
      · intro hx
        rcases List.mem_cons.1 ((h x).1 (List.mem_cons_of_mem _ hx)) with e | e
        · subst e; have := h1.1 x hx; omega
        exact e
      intro hx
      rcases List.mem_cons.1 ((h x).2 (List.mem_cons_of_mem _ hx)) with e | e
      · subst e; have := h2.1 x hx; omega
      exact e
    rw [rising_eq f l m h1.2 h2.2 hm]
def OR (a b : Mv) : Prop := ordM a b < 0
theorem rise4 (W H : Nat) (f : Bool) (t x : Nat) : ∀ n, (mvs4 W H f t x n).Pairwise OR
  | 0 => List.Pairwise.nil
  | n + 1 => by
    simp only [mvs4]
    rw [List.pairwise_append]
    refine ⟨rise4 W H f t x n, by split <;> simp, fun a ha b hb => ?_⟩
    obtain ⟨y, hy, rfl, _⟩ := (mem4 W H f t x a n).1 ha
    split at hb
    · rw [List.mem_singleton.1 hb]
      show ordM _ _ < 0
      rw [ord_lt]
      simp
      omega
    cases hb
theorem rise3 (W H : Nat) (f : Bool) (t : Nat) : ∀ n, (mvs3 W H f t n).Pairwise OR
  | 0 => List.Pairwise.nil
  | n + 1 => by
    simp only [mvs3]
    rw [List.pairwise_append]
    refine ⟨rise3 W H f t n, rise4 W H f t n H, fun a ha b hb => ?_⟩
    obtain ⟨x, hx, ha⟩ := (mem3 W H f t a n).1 ha
    obtain ⟨y, hy, rfl, _⟩ := (mem4 W H f t x a H).1 ha
    obtain ⟨z, hz, rfl, _⟩ := (mem4 W H f t n b H).1 hb
    show ordM _ _ < 0
    rw [ord_lt]
    simp
    omega
theorem rise2 (W H : Nat) (f : Bool) : ∀ n, (mvs2 W H f n).Pairwise OR
  | 0 => List.Pairwise.nil
  | n + 1 => by
    simp only [mvs2]
    rw [List.pairwise_append]
    refine ⟨rise2 W H f n, rise3 W H f n W, fun a ha b hb => ?_⟩
    obtain ⟨t, ht, ha⟩ := (mem2 W H f a n).1 ha
    obtain ⟨x, hx, ha⟩ := (mem3 W H f t a W).1 ha
    obtain ⟨y, hy, rfl, _⟩ := (mem4 W H f t x a H).1 ha
    obtain ⟨x', hx', hb⟩ := (mem3 W H f n b W).1 hb
    obtain ⟨z, hz, rfl, _⟩ := (mem4 W H f n x' b H).1 hb
    show ordM _ _ < 0
    rw [ord_lt]
    simp
    omega
theorem f_of2 {W H : Nat} {f : Bool} {n : Nat} {m : Mv} (h : m ∈ mvs2 W H f n) : m.f = f := by
  obtain ⟨t, ht, h⟩ := (mem2 W H f m n).1 h
  obtain ⟨x, hx, h⟩ := (mem3 W H f t m W).1 h
  obtain ⟨y, hy, rfl, _⟩ := (mem4 W H f t x m H).1 h
  rfl
theorem rise1 (W H : Nat) : (mvs1 W H 2).Pairwise OR := by
  show ((([] ++ mvs2 W H (bo 0) 4)) ++ mvs2 W H (bo 1) 4).Pairwise OR
  rw [List.nil_append, List.pairwise_append]
  refine ⟨rise2 W H _ 4, rise2 W H _ 4, fun a ha b hb => ?_⟩
  show ordM _ _ < 0
  rw [ord_lt]
  left
  exact ⟨f_of2 ha, f_of2 hb⟩
theorem rise_num {W H : Nat} (hs : sizeB W H = true) : (mvs1 W H 2).Pairwise (fun a b => numM W H a < numM W H b) := by
  have h := rise1 W H
  refine h.imp_of_mem ?_
  intro a b ha hb hab
  exact (ord_num ((mem_moves hs a).1 ha) ((mem_moves hs b).1 hb)).1 hab
theorem mem_nthM {ms : List Mv} {m : Mv} : m ∈ ms ↔ ∃ i, i < ms.length ∧ nthM ms i = m := by
  constructor
  · intro h
    obtain ⟨i, hi, e⟩ := List.mem_iff_getElem.1 h
    exact ⟨i, hi, nthM_at (by rw [List.getElem?_eq_getElem hi, e])⟩
  rintro ⟨i, hi, rfl⟩
  have := at_nthM hi
  exact List.mem_of_getElem? this
theorem gB_iff {W H : Nat} (hs : sizeB W H = true) (ms : List Mv) : gB W H ms = true ↔
    (∀ i, i < ms.length → Al W H (nthM ms i)) ∧ ms.Pairwise (fun a b => numM W H a < numM W H b) ∧ memB ⟨0, 0, 0, false⟩ ms = true ∧ ∀ i j, i < ms.length → j < ms.length → memB (aftM W H (nthM ms i) (nthM ms j)) ms = true := by
  unfold gB closB
  simp only [Bool.and_eq_true, List.all_eq_true, List.mem_range]
  constructor
  · rintro ⟨h1, h2, h3⟩
    have hal : ∀ i, i < ms.length → Al W H (nthM ms i) := fun i hi => by
      have := h1 i hi
      unfold stepB at this
      rw [Bool.and_eq_true] at this
      exact al_of (f := (nthM ms i).f) hs this.1
    refine ⟨hal, ?_, h2, fun i j hi hj => h3 i hi j hj⟩
    have hst : ∀ i, 0 < i → i < ms.length → numM W H (nthM ms (i - 1)) < numM W H (nthM ms i) := fun i h0 hi => by
      have := h1 i hi
      unfold stepB at this
      simp only [Bool.and_eq_true, Bool.or_eq_true, decide_eq_true_eq] at this
      exact (ord_num (hal _ (by omega)) (hal _ hi)).1 (this.2.resolve_left (by omega))
    have hup : ∀ d i, i + d + 1 < ms.length → numM W H (nthM ms i) < numM W H (nthM ms (i + d + 1)) := by
      intro d
      induction d with
      | zero => intro i hi; have := hst (i + 1) (by omega) (by omega); simpa using this
      | succ d ih =>
        intro i hi
        have a1 := ih i (by omega)
        have a2 := hst (i + (d + 1) + 1) (by omega) hi
        rw [show i + (d + 1) + 1 - 1 = i + d + 1 by omega] at a2
        omega
    rw [List.pairwise_iff_getElem]
    intro i j hi hj hij
    have := hup (j - i - 1) i (by omega)
    rw [show i + (j - i - 1) + 1 = j by omega] at this
    rwa [nthM_at (List.getElem?_eq_getElem hi), nthM_at (List.getElem?_eq_getElem hj)] at this
  rintro ⟨hal, hp, h2, h3⟩
  refine ⟨fun i hi => ?_, h2, fun i hi j hj => h3 i j hi hj⟩
  unfold stepB
  simp only [Bool.and_eq_true, Bool.or_eq_true, decide_eq_true_eq]
  refine ⟨(hal i hi).al, ?_⟩
  by_cases h0 : i = 0
  · exact .inl h0
  right
  rw [ord_num (hal _ (by omega)) (hal _ hi)]
  have := (List.pairwise_iff_getElem.1 hp) (i - 1) i (by omega) hi (by omega)
  rwa [nthM_at (List.getElem?_eq_getElem (show i - 1 < ms.length by omega)), nthM_at (List.getElem?_eq_getElem hi)]
theorem gB_list {W H : Nat} (hs : sizeB W H = true) {ms : List Mv} (h : gB W H ms = true) : ms = (mvs1 W H 2).filter fun x => memB x ms := by
  obtain ⟨hal, hp, _, _⟩ := (gB_iff hs ms).1 h
  refine rising_eq (numM W H) _ _ hp ((rise_num hs).filter _) (fun x => ?_)
  rw [List.mem_filter]
  constructor
  · intro hx
    obtain ⟨i, hi, e⟩ := mem_nthM.1 hx
    exact ⟨(mem_moves hs x).2 (e ▸ hal i hi), memB_iff.2 hx⟩
  rintro ⟨_, hx⟩
  exact memB_iff.1 hx
theorem moves_len {W H : Nat} (hW : W ≤ 8) (hH : H ≤ 8) : (mvs1 W H 2).length ≤ 512 := len1 W H hW hH 2
theorem len3' (W H : Nat) (f : Bool) (t : Nat) : ∀ n, (mvs3 W H f t n).length ≤ n * H
  | 0 => by simp [mvs3]
  | n + 1 => by
    have := len3' W H f t n
    have := len4 W H f t n H
    simp only [mvs3, List.length_append, Nat.add_mul, Nat.one_mul]
    omega
theorem len2' (W H : Nat) (f : Bool) : ∀ n, (mvs2 W H f n).length ≤ n * (W * H)
  | 0 => by simp [mvs2]
  | n + 1 => by
    have := len2' W H f n
    have := len3' W H f n W
    simp only [mvs2, List.length_append, Nat.add_mul, Nat.one_mul]
    omega
theorem len1' (W H : Nat) : (mvs1 W H 2).length ≤ 8 * (W * H) := by
  have a := len2' W H (bo 0) 4
  have b := len2' W H (bo 1) 4
  show (([] ++ mvs2 W H (bo 0) 4) ++ mvs2 W H (bo 1) 4).length ≤ _
  simp only [List.length_append, List.length_nil]
  omega
theorem group_same {W H : Nat} (hs : sizeB W H = true) (ms : List Mv) : gB W H (ms.take 521) = rGB W H ms := by
  have hb := sizeB_bounds hs
  cases hg : gB W H (ms.take 521)
  · symm
    refine rGB_no (fun h => ?_)
    have hl : ms.length ≤ 512 := by
      have := congrArg List.length h.ord
      have h2 := List.length_filter_le (fun x => memB x ms) (mvs1 W H 2)
      have h3 := moves_len (W := W) (H := H) (by omega) (by omega)
      omega
    rw [List.take_of_length_le (by omega)] at hg
    have : gB W H ms = true := by
      rw [gB_iff hs]
      refine ⟨fun i hi => al_of (f := (nthM ms i).f) hs (h.fit i hi), ?_, h.zero, h.clo⟩
      rw [h.ord]
      exact (rise_num hs).filter _
    rw [this] at hg
    cases hg
  symm
  have e := gB_list hs hg
  have h3 := moves_len (W := W) (H := H) (by omega) (by omega)
  have hl : (ms.take 521).length ≤ 512 := by
    have := congrArg List.length e
    have h2 := List.length_filter_le (fun x => memB x (ms.take 521)) (mvs1 W H 2)
    omega
  have hm : ms.length ≤ 521 := by
    rw [List.length_take] at hl
    omega
  rw [List.take_of_length_le hm] at hg e hl
  obtain ⟨hal, hp, h2, h4⟩ := (gB_iff hs ms).1 hg
  refine rGB_yes ⟨?_, ?_, fun i hi => (hal i hi).al, e, h4, h2⟩
  · obtain ⟨i, hi, _⟩ := mem_nthM.1 (memB_iff.1 h2)
    omega
  have := congrArg List.length e
  have h5 := List.length_filter_le (fun x => memB x ms) (mvs1 W H 2)
  have h6 := len1' W H
  have : ms.length ≤ 8 * (W * H) := by omega
  have e8 : (8 * (W : Int) * (H : Int)) = ((8 * (W * H) : Nat) : Int) := by
    rw [Int.natCast_mul, Int.natCast_mul, ← Int.mul_assoc]
    rfl
  rw [e8]
  omega
end Go.Proofs.Ytddbmckbankmeaa
set_option linter.unusedVariables false
set_option linter.unusedSimpArgs false
namespace Go.Proofs.Ytddbmckbankmeaa
def Per (n : Int) (f : Int → Int → Int) : Prop := ∀ x y i j : Int, f (x + n * i) (y + n * j) = f x y
def Sym (f : Int → Int → Int) (g : Bool) (k : Nat) (a b : Int) : Prop := ∀ x y : Int, f ((trn g x y k).1 + a) ((trn g x y k).2 + b) = f x y
def SymN (n : Int) (f : Int → Int → Int) (g : Bool) (k : Nat) (a b : Int) : Prop := ∀ x y : Int, 0 ≤ x → x < n → 0 ≤ y → y < n → f ((trn g x y k).1 + a) ((trn g x y k).2 + b) = f x y
def Ex (f : Int → Int → Int) (g : Bool) (k : Nat) : Prop := ∃ a b, Sym f g k a b
noncomputable def bP (p : Prop) : Bool := @decide p (Classical.propDecidable p)
theorem bP_true {p : Prop} : bP p = true ↔ p := by
  unfold bP
  exact @decide_eq_true_iff p (Classical.propDecidable p)
theorem bP_false {p : Prop} : bP p = false ↔ ¬p := by
  unfold bP
  exact @decide_eq_false_iff_not p (Classical.propDecidable p)
theorem bP_not {p : Prop} : (!bP p) = bP (¬p) := by
  by_cases h : p
  · rw [bP_true.2 h, bP_false.2 (fun k => k h)]
    rfl
  rw [bP_false.2 h, bP_true.2 h]
  rfl
theorem bP_of {b : Bool} {p : Prop} (h : b = true ↔ p) : b = bP p := by
  by_cases hp : p
  · rw [bP_true.2 hp, h.2 hp]
  rw [bP_false.2 hp]
  cases b
  · rfl
  exact absurd (h.1 rfl) hp
section
variable {n : Int} {f : Int → Int → Int} {g : Bool} {k : Nat} {a b : Int}
theorem Sym.shift (hp : Per n f) (h : Sym f g k a b) (i j : Int) : Sym f g k (a + n * i) (b + n * j) := fun x y => by
  rw [← Int.add_assoc, ← Int.add_assoc, hp]
  exact h x y
end
def far : Nat → Int → Int → Int
  | 0, _, b => b
  | 1, a, b => a - b
  | 2, a, _ => a
  | _, a, b => a + b
def axi : Nat → Int → Int → Int
  | 0, a, _ => a
  | 1, a, b => -a - b
  | 2, _, b => -b
  | _, a, b => a - b
def md (n : Int) : Nat → Int
  | 0 => n
  | 1 => 2 * n
  | 2 => n
  | _ => 2 * n
def Cg (m x y : Int) : Prop := ∃ p : Int, y = x + m * p
theorem cg_iff {m x y : Int} : x % m = y % m ↔ Cg m x y := by
  constructor
  · intro h
    have h1 := Int.emod_add_mul_ediv x m
    have h2 := Int.emod_add_mul_ediv y m
    refine ⟨y / m - x / m, ?_⟩
    rw [Int.mul_sub]
    omega
  rintro ⟨p, rfl⟩
  exact (Int.add_mul_emod_self_left x m p).symm
theorem Cg.symm {m x y : Int} (h : Cg m x y) : Cg m y x := cg_iff.1 (cg_iff.2 h).symm
theorem Cg.trans {m x y z : Int} (h : Cg m x y) (h' : Cg m y z) : Cg m x z := cg_iff.1 ((cg_iff.2 h).trans (cg_iff.2 h'))
theorem Cg.refl (m x : Int) : Cg m x x := ⟨0, by simp⟩
section
variable {n : Int} {f : Int → Int → Int} {k : Nat} {a b : Int}
theorem four (hk : k < 4) : k = 0 ∨ k = 1 ∨ k = 2 ∨ k = 3 := by omega
theorem window (hn : 0 < n) (hk : k < 4) (a b : Int) : ∃ x y e i j : Int, ((0 ≤ x ∧ x < n) ∧ 0 ≤ y ∧ y < n) ∧ (e = 0 ∨ e = 1) ∧ x = a + n * i ∧ y = b + n * j ∧ Cg (md n k) (far k a b) (far k (x + n * e) y) ∧ Cg (md n k) (axi k a b) (axi k (x + n * e) y) := by
  have h1 := Int.emod_add_mul_ediv a n
  have h2 := Int.emod_add_mul_ediv b n
  have h3 := Int.emod_nonneg a (show n ≠ 0 by omega)
  have h4 := Int.emod_lt_of_pos a hn
  have h5 := Int.emod_nonneg b (show n ≠ 0 by omega)
  have h6 := Int.emod_lt_of_pos b hn
  have key : ∀ e : Int, (e = 0 ∨ e = 1) → (∃ p q, far k (a + n * (-(a / n) + e)) (b + n * -(b / n)) = far k a b + md n k * p ∧ axi k (a + n * (-(a / n) + e)) (b + n * -(b / n)) = axi k a b + md n k * q) →
      ∃ x y e i j : Int, ((0 ≤ x ∧ x < n) ∧ 0 ≤ y ∧ y < n) ∧ (e = 0 ∨ e = 1) ∧ x = a + n * i ∧ y = b + n * j ∧ Cg (md n k) (far k a b) (far k (x + n * e) y) ∧ Cg (md n k) (axi k a b) (axi k (x + n * e) y) := by
    rintro e he ⟨p, q, hp, hq⟩
    refine ⟨a % n, b % n, e, -(a / n), -(b / n), ⟨⟨h3, h4⟩, h5, h6⟩, he, by rw [Int.mul_neg]; omega, by rw [Int.mul_neg]; omega, ⟨p, ?_⟩, ⟨q, ?_⟩⟩
    · rw [← hp]
      congr 1
      · rw [Int.mul_add, Int.mul_neg]; omega
      rw [Int.mul_neg]; omega
    rw [← hq]
    congr 1
    · rw [Int.mul_add, Int.mul_neg]; omega
    rw [Int.mul_neg]; omega
  generalize a / n = i at key
  generalize b / n = j at key
  rcases four hk with rfl | rfl | rfl | rfl
  · exact key 0 (Or.inl rfl) ⟨-j, -i, by simp [far, md], by simp [axi, md]⟩
  · obtain ⟨q, hq⟩ : ∃ q, i = j + (i - j) % 2 + 2 * q := ⟨(i - j) / 2, by omega⟩
    generalize hE : (i - j) % 2 = e at hq
    refine key e (by omega) ⟨-q, q + j, ?_, ?_⟩ <;> subst hq <;> simp only [far, axi, md, Int.mul_sub, Int.mul_add, Int.mul_neg, Int.mul_assoc, Int.mul_left_comm n 2] <;> omega
  · exact key 0 (Or.inl rfl) ⟨-i, j, by simp [far, md], by simp [axi, md, Int.mul_neg]; omega⟩
  obtain ⟨q, hq⟩ : ∃ q, i = j + (i - j) % 2 + 2 * q := ⟨(i - j) / 2, by omega⟩
  generalize hE : (i - j) % 2 = e at hq
  refine key e (by omega) ⟨-q - j, -q, ?_, ?_⟩ <;> subst hq <;> simp only [far, axi, md, Int.mul_sub, Int.mul_add, Int.mul_neg, Int.mul_assoc, Int.mul_left_comm n 2] <;> omega
end
def uP (g : Bool) (n : Int) (k : Nat) (x y : Int) : Int × Int := ((x + (trn g x y k).1) % (2 * n), (y + (trn g x y k).2) % (2 * n))
def vP (g : Bool) (n : Int) (k : Nat) (x y : Int) : Int × Int := ((x - (trn g x y k).1) % (2 * n), (y - (trn g x y k).2) % (2 * n))
def Win (n : Int) (x y e : Int) : Prop := ((0 ≤ x ∧ x < n) ∧ 0 ≤ y ∧ y < n) ∧ (e = 0 ∨ e = 1)
section
variable {n : Int} {f : Int → Int → Int} {k : Nat}
theorem ex_win (hn : 0 < n) (hp : Per n f) {g : Bool} : (∃ x y : Int, ((0 ≤ x ∧ x < n) ∧ 0 ≤ y ∧ y < n) ∧ Sym f g k x y) ↔ Ex f g k := by
  constructor
  · rintro ⟨x, y, _, h⟩
    exact ⟨x, y, h⟩
  rintro ⟨a, b, h⟩
  obtain ⟨x, y, e, i, j, h1, h2, h3, h4, _, _⟩ := window hn (k := 0) (by omega) a b
  exact ⟨x, y, h1, by rw [h3, h4]; exact h.shift hp i j⟩
def Win2 (n a b : Int) : Prop := (-2 * n ≤ a ∧ a < 2 * n) ∧ -2 * n ≤ b ∧ b < 2 * n
end
end Go.Proofs.Ytddbmckbankmeaa
set_option linter.unusedVariables false
set_option linter.unusedSimpArgs false
namespace Go.Proofs.Ytddbmckbankmeaa
noncomputable def cnt (p : Nat → Prop) : Nat := (bP (p 0)).toNat + (bP (p 1)).toNat + (bP (p 2)).toNat + (bP (p 3)).toNat
section
variable {f f' : Int → Int → Int}
def cj (g : Bool) (k : Nat) (g2 : Bool) (j : Nat) : Nat := if g2 = true then (if g = true then 2 * k + 4 - j else j + 2 * k) % 4 else if g = true then (4 - j) % 4 else j
variable {g : Bool} {k : Nat} {dx dy : Int}
def HF (f f' : Int → Int → Int) (g : Bool) (k : Nat) (dx dy : Int) : Prop := ∀ x y, f' ((trn g x y k).1 + dx) ((trn g x y k).2 + dy) = f x y
def cb (g : Bool) (k : Nat) (dx dy : Int) (g2 : Bool) (j : Nat) (a b : Int) : Int := (trn g a b k).2 + dy - (trn g2 dx dy (cj g k g2 j)).2
end
end Go.Proofs.Ytddbmckbankmeaa
set_option linter.unusedVariables false
set_option linter.unusedSimpArgs false
namespace Go.Proofs.Ytddbmckbankmeaa
open Go.RowKit
theorem run_storeF {P : Program} {a : Addr} {m : Mode} {w : World} (fn : Fn) (first captured : Array Value) : (store a (.func fn first captured) m).run P w = stored P w a (.func fn first captured) m := run_store P w a _ m rfl
attribute [local go_sem] run_storeF
section
variable {Q : Exit → Act → World → Prop} {o : Oper} {a : Act} {w : World} {d : Nat} {g off : Nat} {x y z zz : Operand} {ty : TypeId} {b b1 b2 b3 b4 : Int} {c c0 c1 c2 : Bool} {A : Option Addr} {n k : Nat} {m i j : Int} {fv u : Value} {fn : Fn} {fx fy : Array Value}
end
def perG (W H : Int) : Nat → Int → Int
  | 0, n => n
  | k + 1, n => if n % H = 0 then n else perG W H k (n + W)
def perN (W H : Int) : Int := perG W H 8 W
end Go.Proofs.Ytddbmckbankmeaa
set_option linter.unusedVariables false
set_option linter.unusedSimpArgs false
namespace Go.Proofs.Ytddbmckbankmeaa
open Go.RowKit
def PerAt (W H : Int) (q : Nat) (m : Int) : Prop := q ≤ 5 ∧ m = W + W * q ∧ (∀ j : Nat, j < q → (W + W * j) % H ≠ 0) ∧ perN W H = perG W H (8 - q) m
section
variable {W H m : Int} {q : Nat}
theorem PerAt.start : PerAt W H 0 W := ⟨by omega, by simp, fun j hj => by omega, rfl⟩
theorem PerAt.bound (h : PerAt W H q m) (hW : 1 ≤ W ∧ W ≤ 6) : 1 ≤ m ∧ m ≤ 36 := by
  obtain ⟨h1, h2, _⟩ := h
  have := mul_b (a := W) (b := (q : Int)) (A := 6) (B := 5) (by omega) (by omega)
  omega
end
def SymR (f : Int → Int → Int) (g : Bool) (k : Nat) (a b n : Int) (x y : Nat) : Prop := ∀ p q : Int, 0 ≤ p → 0 ≤ q → q < n → (p < x ∨ (p = x ∧ q < y)) → f ((trn g p q k).1 + a) ((trn g p q k).2 + b) = f p q
section
variable {f : Int → Int → Int} {g : Bool} {k : Nat} {a b n : Int} {x y : Nat}
theorem SymR.start : SymR f g k a b n 0 0 := fun p q h1 h2 h3 h4 => by omega
theorem SymR.cell (h : SymR f g k a b n x y) (he : f ((trn g x y k).1 + a) ((trn g x y k).2 + b) = f x y) : SymR f g k a b n x (y + 1) := fun p q h1 h2 h3 h4 => by
  by_cases e : p = x ∧ q = y
  · rw [e.1, e.2]
    exact he
  exact h p q h1 h2 h3 (by omega)
theorem SymR.row (h : SymR f g k a b n x y) (he : n ≤ y) : SymR f g k a b n (x + 1) 0 := fun p q h1 h2 h3 h4 => h p q h1 h2 h3 (by omega)
theorem SymR.all (h : SymR f g k a b n x 0) (he : n ≤ x) : SymN n f g k a b := fun p q h1 h2 h3 h4 => h p q h1 h3 h4 (by omega)
end
def NoR (f : Int → Int → Int) (g : Bool) (k : Nat) (n : Int) (x y : Nat) : Prop := ∀ p q : Int, 0 ≤ p → 0 ≤ q → q < n → (p < x ∨ (p = x ∧ q < y)) → ¬ Sym f g k p q
section
variable {f : Int → Int → Int} {g : Bool} {k : Nat} {n : Int} {x y : Nat}
theorem NoR.start : NoR f g k n 0 0 := fun p q h1 h2 h3 h4 => by omega
theorem NoR.cell (h : NoR f g k n x y) (he : ¬ Sym f g k x y) : NoR f g k n x (y + 1) := fun p q h1 h2 h3 h4 => by
  by_cases e : p = x ∧ q = y
  · rw [e.1, e.2]
    exact he
  exact h p q h1 h2 h3 (by omega)
theorem NoR.row (h : NoR f g k n x y) (he : n ≤ y) : NoR f g k n (x + 1) 0 := fun p q h1 h2 h3 h4 => h p q h1 h2 h3 (by omega)
theorem NoR.all (h : NoR f g k n x 0) (he : n ≤ x) (hn : 0 < n) (hp : Per n f) : ¬ Ex f g k := fun hs => by
  obtain ⟨p, q, hw, hs⟩ := (ex_win hn hp).2 hs
  exact h p q hw.1.1 hw.2.1 hw.2.2 (by omega) hs
end
end Go.Proofs.Ytddbmckbankmeaa
set_option linter.unusedVariables false
set_option linter.unusedSimpArgs false
namespace Go.Proofs.Ytddbmckbankmeaa
open Go.RowKit
theorem getD_set {bs : List Bool} {i j : Nat} {b : Bool} (hi : i < bs.length) : (bs.set i b).getD j false = if i = j then b else bs.getD j false := by
  rw [List.getD_eq_getElem?_getD, List.getD_eq_getElem?_getD, List.getElem?_set]
  split
  · next h =>
    subst h
    simp [hi]
  rfl
theorem idx_ok {n x y : Int} (hx : 0 ≤ x ∧ x < n) (hy : 0 ≤ y ∧ y < n) : (0 ≤ x * n ∧ x * n ≤ n * n) ∧ 0 ≤ x * n + y ∧ x * n + y < n * n := by
  have h1 := Int.mul_nonneg hx.1 (show 0 ≤ n by omega)
  have h2 := Int.mul_le_mul_of_nonneg_right (show x ≤ n - 1 by omega) (show 0 ≤ n by omega)
  rw [Int.sub_mul, Int.one_mul] at h2
  omega
def SymL (f : Int → Int → Int) (g : Bool) (k : Nat) (n : Int) (bs : List Bool) (x y : Nat) : Prop :=
  (bs.length : Int) = n * n ∧ ∀ p q : Int, 0 ≤ p → p < n → 0 ≤ q → q < n → (p < x ∨ (p = x ∧ q < y)) → bs.getD (p * n + q).toNat false = bP (Sym f g k p q)
section
variable {f : Int → Int → Int} {g : Bool} {k : Nat} {n : Int} {bs : List Bool} {x y : Nat}
theorem SymL.start {N : Nat} (h : n * n = (N : Int)) : SymL f g k n (List.replicate N false) 0 0 := ⟨by rw [List.length_replicate, h], fun p q h1 h2 h3 h4 h5 => by omega⟩
theorem SymL.cell (h : SymL f g k n bs x y) (hx : (x : Int) < n) (hy : (y : Int) < n) : SymL f g k n (bs.set ((x : Int) * n + (y : Int)).toNat (bP (Sym f g k x y))) x (y + 1) := by
  obtain ⟨hl, h⟩ := h
  have hi := idx_ok (n := n) (x := x) (y := y) (by omega) (by omega)
  refine ⟨by rw [List.length_set, hl], fun p q h1 h2 h3 h4 h5 => ?_⟩
  have hj := idx_ok (n := n) (x := p) (y := q) (by omega) (by omega)
  rw [getD_set (by omega)]
  split
  · next e =>
    have := num_digits (H := n) (W := n) (a := p) (b := x) (x := q) (y := y) (by omega) (by omega) (by omega)
    rw [this.1, this.2]
  next e => exact h p q h1 h2 h3 h4 (by
    by_cases e2 : p = x ∧ q = y
    · rw [e2.1, e2.2] at e
      exact absurd rfl e
    omega)
theorem SymL.row (h : SymL f g k n bs x y) (he : n ≤ y) : SymL f g k n bs (x + 1) 0 := ⟨h.1, fun p q h1 h2 h3 h4 h5 => h.2 p q h1 h2 h3 h4 (by omega)⟩
theorem SymL.at_ (h : SymL f g k n bs x y) {p q : Int} (hp : 0 ≤ p ∧ p < n) (hq : 0 ≤ q ∧ q < n) (hx : p < x ∨ (p = x ∧ q < y)) : bs.getD (p * n + q).toNat false = bP (Sym f g k p q) := h.2 p q hp.1 hp.2 hq.1 hq.2 hx
def Em (f : Int → Int → Int) (g : Bool) (k : Nat) (n : Int) (e : Bool) (x y : Nat) : Prop := e = true ↔ NoR f g k n x y
theorem Em.start : Em f g k n true 0 0 := ⟨fun _ => NoR.start, fun _ => rfl⟩
theorem Em.cell {e : Bool} (h : Em f g k n e x y) (hy : (y : Int) < n) : Em f g k n (e && !bP (Sym f g k x y)) x (y + 1) := by
  unfold Em at h ⊢
  rw [Bool.and_eq_true, h, bP_not, bP_true]
  exact ⟨fun ⟨h1, h2⟩ => h1.cell h2, fun h1 => ⟨fun p q a1 a2 a3 a4 => h1 p q a1 a2 a3 (by omega), h1 x y (by omega) (by omega) hy (by omega)⟩⟩
theorem Em.row {e : Bool} (h : Em f g k n e x y) (he : n ≤ y) : Em f g k n e (x + 1) 0 := by
  unfold Em at h ⊢
  rw [h]
  exact ⟨fun h1 => h1.row he, fun h1 p q a1 a2 a3 a4 => h1 p q a1 a2 a3 (by omega)⟩
theorem Em.all {e : Bool} (h : Em f g k n e x 0) (he : n ≤ x) (hn : 0 < n) (hp : Per n f) : e = bP (¬ Ex f g k) :=
  bP_of ⟨fun h1 => (h.1 h1).all he hn hp, fun h1 => h.2 (fun p q _ _ _ _ hs => h1 ⟨p, q, hs⟩)⟩
end
def Mk (f : Int → Int → Int) (k : Nat) (n : Int) (Z : Int → Prop) (bs : List Bool) (a b : Int) : Prop :=
  (bs.length : Int) = 2 * n ∧ ∀ i : Int, 0 ≤ i → i < 2 * n → (bs.getD i.toNat false = true ↔ ∃ p q, Win2 n p q ∧ (p < a ∨ (p = a ∧ q < b)) ∧ Sym f true k p q ∧ axi k p q = i ∧ Z (far k p q))
section
variable {f : Int → Int → Int} {k : Nat} {n a b : Int} {Z : Int → Prop} {bs : List Bool}
theorem Mk.start {N : Nat} (h : 2 * n = (N : Int)) : Mk f k n Z (List.replicate N false) (-2 * n) (-2 * n) := ⟨by rw [List.length_replicate, h], fun i h1 h2 => ⟨fun h3 => by
    rw [List.getD_eq_getElem?_getD, List.getElem?_replicate] at h3
    split at h3 <;> simp at h3, fun ⟨p, q, hw, h3, _⟩ => by unfold Win2 at hw; omega⟩⟩
theorem Mk.skip (h : Mk f k n Z bs a b) (hno : ¬ (Sym f true k a b ∧ (0 ≤ axi k a b ∧ axi k a b < 2 * n) ∧ Z (far k a b))) : Mk f k n Z bs a (b + 1) := ⟨h.1, fun i h1 h2 => by
  rw [h.2 i h1 h2]
  constructor
  · rintro ⟨p, q, hw, h3, h4⟩
    exact ⟨p, q, hw, by omega, h4⟩
  rintro ⟨p, q, hw, h3, h4, h5, h6⟩
  refine ⟨p, q, hw, ?_, h4, h5, h6⟩
  by_cases e : p = a ∧ q = b
  · obtain ⟨rfl, rfl⟩ := e
    exact absurd ⟨h4, by omega, h6⟩ hno
  omega⟩
theorem Mk.row (h : Mk f k n Z bs a b) (hb : 2 * n ≤ b) : Mk f k n Z bs (a + 1) (-2 * n) := ⟨h.1, fun i h1 h2 => by
  rw [h.2 i h1 h2]
  constructor
  · rintro ⟨p, q, hw, h3, h4⟩
    exact ⟨p, q, hw, by omega, h4⟩
  rintro ⟨p, q, hw, h3, h4⟩
  refine ⟨p, q, hw, ?_, h4⟩
  unfold Win2 at hw
  omega⟩
theorem Mk.all (h : Mk f k n Z bs a b) (ha : 2 * n ≤ a) {i : Int} (h1 : 0 ≤ i) (h2 : i < 2 * n) : bs.getD i.toNat false = true ↔ ∃ p q, Win2 n p q ∧ Sym f true k p q ∧ axi k p q = i ∧ Z (far k p q) := by
  rw [h.2 i h1 h2]
  constructor
  · rintro ⟨p, q, hw, h3, h4⟩
    exact ⟨p, q, hw, h4⟩
  rintro ⟨p, q, hw, h4⟩
  refine ⟨p, q, hw, ?_, h4⟩
  unfold Win2 at hw
  omega
end
def Met (P : Nat → Prop) (m : Bool) (i : Nat) : Prop := m = true ↔ ∃ j, j < i ∧ P j
section
variable {P : Nat → Prop} {m : Bool} {i : Nat}
theorem Met.start : Met P false 0 := ⟨fun h => (by cases h), fun ⟨j, hj, _⟩ => (by omega)⟩
theorem Met.keep (h : Met P true i) : Met P true (i + 1) := ⟨fun _ => let ⟨j, h1, h2⟩ := h.1 rfl; ⟨j, by omega, h2⟩, fun _ => rfl⟩
theorem Met.no (h : Met P false i) (hn : ¬ P i) : Met P false (i + 1) := by
  refine ⟨fun h => (by cases h), ?_⟩
  rintro ⟨j, h1, h2⟩
  by_cases e : j = i
  · rw [e] at h2
    exact absurd h2 hn
  exact h.2 ⟨j, by omega, h2⟩
end
end Go.Proofs.Ytddbmckbankmeaa
set_option linter.unusedVariables false
set_option linter.unusedSimpArgs false
namespace Go.Proofs.Ytddbmckbankmeaa
open Go.RowKit Go.ChangeShapes Go.WideShapes Go.ChangeAt Go.WideMaps Go.Joins
open Go.Maps (Keyed)
theorem rowV : (130 : TypeId) < Try.prog.types.size := of_decide_eq_true (by kernel_rfl)
theorem wideV : (match Try.prog.underlying 130 with | some (.array _ _) | some (.struct _) => true | _ => false) = true := by kernel_rfl
set_option maxRecDepth 100000 in
theorem lawV : KeyLaw Try.prog 130 := deep_law_laid laidM (m := 3) (by omega) rowV (by kernel_rfl) wideV
theorem keyedV : Keyed Try.prog 130 := Keyed.of_law lawV
def vvv (v : Int × Int) : Value := .agg #[.int .i64 v.1, .int .i64 v.2]
noncomputable def keyV (v : Int × Int) : Option Lit := keyOf Try.prog 130 (vvv v)
theorem vvv_inj {m n : Int × Int} (h : vvv m = vvv n) : m = n := by
  obtain ⟨x, y⟩ := m
  obtain ⟨x', y'⟩ := n
  simp [vvv] at h
  simp [h]
theorem keyV_inj {u v : Int × Int} {kl : Lit} (h : keyV u = some kl) (h' : keyV v = some kl) : u = v := vvv_inj (keyedV.inj h h')
def memV (u : Int × Int) (us : List (Int × Int)) : Bool := us.any (fun x => x.1 == u.1 && x.2 == u.2)
theorem memV_iff {u : Int × Int} {us : List (Int × Int)} : memV u us = true ↔ u ∈ us := by
  unfold memV
  rw [List.any_eq_true]
  constructor
  · rintro ⟨x, h1, h2⟩
    simp only [Bool.and_eq_true, beq_iff_eq] at h2
    have : x = u := Prod.ext h2.1 h2.2
    rwa [this] at h1
  intro h
  exact ⟨u, h, by simp⟩
def MapV (w : World) (b : Nat) (us : List (Int × Int)) : Prop := ∃ D : DataW Unit, w.ownsMap Try.prog 130 (plainElem Try.prog 4) b us.length D ∧ ∀ u kl, keyV u = some kl → D.atKey kl (.lit (.bool false)) = .lit (.bool (memV u us))
theorem owns_congr {k : TypeId} {R : Value → Option (DataW Unit × List MemPlace)} {w w' : World} {b n : Nat} {D : DataW Unit} (e : w'.heap[b]? = w.heap[b]?) (h : w.ownsMap Try.prog k R b n D) : w'.ownsMap Try.prog k R b n D := by
  obtain ⟨es, clock, hb, r⟩ := h
  exact ⟨es, clock, e.trans hb, r⟩
def IsM (w : World) (b : Nat) : Prop := ∃ es clock, w.heap[b]? = some (.map es clock)
theorem owns_isM {k : TypeId} {R : Value → Option (DataW Unit × List MemPlace)} {w : World} {b n : Nat} {D : DataW Unit} (h : w.ownsMap Try.prog k R b n D) : IsM w b := by
  obtain ⟨es, clock, hb, _⟩ := h
  exact ⟨es, clock, hb⟩
theorem isM_ne {w : World} {b g : Nat} {t : TypeId} {us : List Value} (h : IsM w b) (hg : Blk w g t us) : g ≠ b := fun e => by
  subst e
  obtain ⟨es, clock, hb⟩ := h
  unfold Blk at hg
  rw [hg] at hb
  cases hb
theorem putL_heap {g i : Nat} (hne : i ≠ g) : ∀ (vs : List Value) (w : World) (o : Nat), (putL w g o vs).heap[i]? = w.heap[i]?
  | [], _, _ => rfl
  | v :: vs, w, o => (putL_heap hne vs _ (o + 1)).trans (Below.heap_setCell w ⟨g, o, none⟩ v i hne)
section
variable {w w' : World} {b : Nat} {us : List (Int × Int)} {u : Int × Int}
theorem MapV.congr (h : MapV w b us) (e : w'.heap[b]? = w.heap[b]?) : MapV w' b us := by
  obtain ⟨D, h1, h2⟩ := h
  exact ⟨D, owns_congr e h1, h2⟩
theorem MapV.isM (h : MapV w b us) : IsM w b := by
  obtain ⟨D, h1, _⟩ := h
  exact owns_isM h1
theorem MapV.lt (h : MapV w b us) : b < w.heap.size := by
  obtain ⟨D, h1, _⟩ := h
  exact h1.lt
theorem MapV.to (h : MapV w b us) (hb : Below w.heap.size w w') : MapV w' b us := h.congr (hb.block b h.lt)
theorem MapV.look (h : MapV w b us) {kl : Lit} (hk : keyV u = some kl) : (Instr.lookup 133 (.map (some b)) (vvv u) false).run Try.prog w = .ok (.bool (memV u us)) w := by
  obtain ⟨D, h1, h2⟩ := h
  obtain ⟨v, ps, hrun, hv⟩ := h1.lookup keyedV Try.underlying133 (zeroBool w) (plainElem_bool Try.underlying4 false) hk
  obtain ⟨c, rfl, hc⟩ := plainElem_bool_inv Try.underlying4 hv
  rw [h2 u kl hk] at hc
  simp only [Prod.mk.injEq, DataW.lit.injEq, Lit.bool.injEq] at hc
  rw [hrun, hc.1]
theorem MapV.store (h : MapV w b us) {kl : Lit} (hk : keyV u = some kl) (hn : us.length < maxLen) : ∃ w', (Instr.mapUpdate 133 (.map (some b)) (vvv u) (.bool true)).run Try.prog w = .ok () w' ∧ MapV w' b (us ++ [u]) ∧ w.grownBy w' (some b) := by
  obtain ⟨D, h1, h2⟩ := h
  obtain ⟨w', r1, r2, r3⟩ := h1.update keyedV Try.underlying133 hn hk (plainElem_bool Try.underlying4 true)
  refine ⟨w', r1, ⟨D.put kl (.lit (.bool true)), by rw [List.length_append]; exact r2, fun n nl hnk => ?_⟩, r3⟩
  by_cases e : nl = kl
  · subst e
    have := keyV_inj hnk hk
    subst this
    rw [Maps.atKey_put_same h1.isMap (keyedV.key hk)]
    rw [show memV n (us ++ [n]) = true from memV_iff.2 (by simp)]
  rw [Maps.atKey_put_other e, h2 n nl hnk]
  have hne : n ≠ u := fun e2 => by
    subst e2
    rw [hnk] at hk
    exact e (Option.some.inj hk)
  have : memV n (us ++ [u]) = memV n us := by
    have h3 : memV n (us ++ [u]) = true ↔ memV n us = true := by
      rw [memV_iff, memV_iff, List.mem_append, List.mem_singleton]
      exact ⟨fun h => h.elim (fun h => h) (fun h => absurd h hne), .inl⟩
    cases h4 : memV n us
    · cases h5 : memV n (us ++ [u])
      · rfl
      rw [h3.1 h5] at h4
      cases h4
    exact h3.2 h4
  rw [this]
end
structure Ae where
  v : Int × Int
  b : Nat
  us : List (Int × Int)
def fnd (al : List Ae) (v : Int × Int) : Option Ae := al.find? (fun e => decide (e.v = v))
def RB (v : Value) : Option (DataW Unit × List MemPlace) := match v with | .map (some b) => some (.lit (.int .i64 (b : Int)), []) | .map none => some (.nil, []) | _ => none
theorem RB_inv {v : Value} {z : DataW Unit × List MemPlace} (h : RB v = some z) : ∃ c : Option Nat, v = .map c ∧ z = ((match c with | some b => .lit (.int .i64 (b : Int)) | none => .nil), []) := by
  unfold RB at h
  split at h
  · injection h with h
    exact ⟨some _, rfl, h.symm⟩
  · injection h with h
    exact ⟨none, rfl, h.symm⟩
  cases h
def atA (al : List Ae) (v : Int × Int) (z : DataW Unit) : DataW Unit := match fnd al v with | some e => .lit (.int .i64 (e.b : Int)) | none => z
def OutM (w : World) (bm : Nat) (al : List Ae) (D : DataW Unit) (n : Nat) : Prop := w.ownsMap Try.prog 130 RB bm n D ∧ n ≤ al.length ∧ (∀ v kl z, keyV v = some kl → D.atKey kl z = atA al v z) ∧ ∀ kl, Maps.has D kl = true → ∃ e ∈ al, keyV e.v = some kl
structure MM (w : World) (lo bm : Nat) (al : List Ae) : Prop where
  out : ∃ D n, OutM w bm al D n
  hlo : lo ≤ bm
  inn : ∀ e ∈ al, (∃ kl, keyV e.v = some kl) ∧ MapV w e.b e.us ∧ lo ≤ e.b ∧ e.b ≠ bm
  ap : al.Pairwise (fun e e' => e.v ≠ e'.v ∧ e.b ≠ e'.b)
section
variable {w w' : World} {lo bm b r : Nat} {al : List Ae} {e e' : Ae} {u v : Int × Int}
theorem ap_eq (h : al.Pairwise (fun e e' => e.v ≠ e'.v ∧ e.b ≠ e'.b)) (he : e ∈ al) (he' : e' ∈ al) : (e.v = e'.v → e = e') ∧ (e.b = e'.b → e = e') := by
  induction al with
  | nil => cases he
  | cons a l ih =>
    rw [List.pairwise_cons] at h
    rcases List.mem_cons.1 he with e1 | h1
    · rcases List.mem_cons.1 he' with e2 | h2
      · exact ⟨fun _ => e1.trans e2.symm, fun _ => e1.trans e2.symm⟩
      rw [e1]
      exact ⟨fun h3 => absurd h3 (h.1 e' h2).1, fun h3 => absurd h3 (h.1 e' h2).2⟩
    rcases List.mem_cons.1 he' with e2 | h2
    · rw [e2]
      exact ⟨fun h3 => absurd h3.symm (h.1 e h1).1, fun h3 => absurd h3.symm (h.1 e h1).2⟩
    exact ih h.2 h1 h2
theorem fnd_some (h : fnd al v = some e) : e ∈ al ∧ e.v = v := ⟨List.mem_of_find?_eq_some h, by simpa using List.find?_some h⟩
theorem fnd_none (h : fnd al v = none) : ∀ e ∈ al, e.v ≠ v := fun e he => by simpa using List.find?_eq_none.1 h e he
theorem fnd_mem (ha : al.Pairwise (fun e e' => e.v ≠ e'.v ∧ e.b ≠ e'.b)) (he : e ∈ al) : fnd al e.v = some e := by
  cases h : fnd al e.v with
  | none => exact absurd rfl (fnd_none h e he)
  | some x =>
    obtain ⟨h1, h2⟩ := fnd_some h
    rw [(ap_eq ha h1 he).1 h2]
theorem MM.congr (h : MM w lo bm al) (h0 : w'.heap[bm]? = w.heap[bm]?) (h1 : ∀ e ∈ al, w'.heap[e.b]? = w.heap[e.b]?) : MM w' lo bm al := by
  obtain ⟨⟨D, n, a1, a2⟩, h2, h3, h4⟩ := h
  exact ⟨⟨D, n, owns_congr h0 a1, a2⟩, h2, fun e he => ⟨(h3 e he).1, (h3 e he).2.1.congr (h1 e he), (h3 e he).2.2⟩, h4⟩
theorem MM.isM (h : MM w lo bm al) : IsM w bm := by
  obtain ⟨⟨D, n, a1, a2⟩, _⟩ := h
  exact owns_isM a1
theorem MM.lt (h : MM w lo bm al) : bm < w.heap.size := by
  obtain ⟨⟨D, n, a1, a2⟩, _⟩ := h
  exact a1.lt
theorem MM.to (h : MM w lo bm al) (hb : Below w.heap.size w w') : MM w' lo bm al := h.congr (hb.block bm h.lt) (fun e he => hb.block e.b (h.inn e he).2.1.lt)
theorem MM.putB (h : MM w lo bm al) {g o : Nat} {t : TypeId} {us vs : List Value} (hg : Blk w g t us) : MM (putL w g o vs) lo bm al :=
  h.congr (putL_heap (Ne.symm (isM_ne h.isM hg)) vs w o) (fun e he => putL_heap (Ne.symm (isM_ne (h.inn e he).2.1.isM hg)) vs w o)
theorem MM.grown (h : MM w lo bm al) (hg : w.grownBy w' (some r)) (h0 : bm ≠ r) (h1 : ∀ e ∈ al, e.b ≠ r) : MM w' lo bm al :=
  h.congr (hg.block bm h.lt (fun e2 => h0 (Option.some.inj e2))) (fun e he => hg.block e.b (h.inn e he).2.1.lt (fun e2 => h1 e he (Option.some.inj e2)))
theorem zeroMap (w : World) : (zeroValue 133).run Try.prog w = .ok (.map none) w := by kernel_rfl
theorem MM.look (h : MM w lo bm al) {kl : Lit} (hk : keyV v = some kl) : (Instr.lookup 127 (.map (some bm)) (vvv v) false).run Try.prog w = .ok (.map ((fnd al v).map Ae.b)) w := by
  obtain ⟨⟨D, n, a1, a2, a3, a4⟩, _⟩ := h
  obtain ⟨x, ps, hrun, hv⟩ := a1.lookup keyedV Try.underlying127 (zeroMap w) (zd := .nil) (zp := []) rfl hk
  obtain ⟨c, rfl, hc⟩ := RB_inv hv
  rw [a3 v kl _ hk] at hc
  have hc1 := congrArg Prod.fst hc
  simp only at hc1
  rw [hrun]
  unfold atA at hc1
  cases hf : fnd al v with
  | none =>
    rw [hf] at hc1
    cases c with
    | none => rfl
    | some q => cases hc1
  | some e =>
    rw [hf] at hc1
    cases c with
    | none => cases hc1
    | some q =>
      have hc2 : (DataW.lit (.int .i64 (e.b : Int)) : DataW Unit) = .lit (.int .i64 (q : Int)) := hc1
      simp only [DataW.lit.injEq, Lit.int.injEq, true_and] at hc2
      have : q = e.b := by omega
      subst this
      rfl
theorem MM.store (h : MM w lo bm al) {kl : Lit} (hk : keyV v = some kl) (hf : fnd al v = none) (hm : MapV w b []) (hlo : lo ≤ b) (hb : b ≠ bm) (hbe : ∀ e ∈ al, e.b ≠ b) (hn : al.length < maxLen) :
    ∃ w', (Instr.mapUpdate 127 (.map (some bm)) (vvv v) (.map (some b))).run Try.prog w = .ok () w' ∧ MM w' lo bm (al ++ [⟨v, b, []⟩]) ∧ w.grownBy w' (some bm) := by
  have hbm := h.lt
  obtain ⟨⟨D, n, a1, a2, a3, a4⟩, h2, h3, h4⟩ := h
  obtain ⟨w', r1, r2, r3⟩ := a1.update keyedV Try.underlying127 (Nat.lt_of_le_of_lt a2 hn) hk (show RB (.map (some b)) = some (.lit (.int .i64 (b : Int)), []) from rfl)
  have hkeep : ∀ q, q < w.heap.size → q ≠ bm → w'.heap[q]? = w.heap[q]? := fun q h1 h2 => r3.block q h1 (fun e2 => h2 (Option.some.inj e2))
  refine ⟨w', r1, ⟨⟨_, _, r2, by rw [List.length_append]; exact Nat.succ_le_succ a2, fun x nl z hx => ?_, fun nl hh => ?_⟩, h2, fun e he => ?_, ?_⟩, r3⟩
  · unfold atA fnd
    rw [List.find?_append]
    by_cases e : nl = kl
    · subst e
      have := keyV_inj hx hk
      subst this
      rw [Maps.atKey_put_same a1.isMap (keyedV.key hk)]
      rw [show al.find? (fun e => decide (e.v = x)) = none from hf]
      simp
    rw [Maps.atKey_put_other e, a3 x nl z hx]
    have hne : v ≠ x := fun e2 => by
      subst e2
      rw [hx] at hk
      exact e (Option.some.inj hk)
    unfold atA fnd
    simp [hne]
  · by_cases e : nl = kl
    · subst e
      exact ⟨_, List.mem_append_right _ (List.mem_singleton.2 rfl), hk⟩
    rw [Maps.has_put_other e] at hh
    obtain ⟨x, hx, hx2⟩ := a4 nl hh
    exact ⟨x, List.mem_append_left _ hx, hx2⟩
  · rcases List.mem_append.1 he with he | he
    · obtain ⟨q1, q2, q3, q4⟩ := h3 e he
      exact ⟨q1, q2.congr (hkeep e.b q2.lt q4), q3, q4⟩
    rw [List.mem_singleton.1 he]
    exact ⟨⟨kl, hk⟩, hm.congr (hkeep b hm.lt hb), hlo, hb⟩
  rw [List.pairwise_append]
  refine ⟨h4, by simp, fun e he e' he' => ?_⟩
  rw [List.mem_singleton.1 he']
  exact ⟨fnd_none hf e he, hbe e he⟩
def upd (al : List Ae) (v u : Int × Int) : List Ae := al.map (fun e => if e.v = v then ⟨e.v, e.b, e.us ++ [u]⟩ else e)
theorem upd_vb (e : Ae) : (if e.v = v then (⟨e.v, e.b, e.us ++ [u]⟩ : Ae) else e).v = e.v ∧ (if e.v = v then (⟨e.v, e.b, e.us ++ [u]⟩ : Ae) else e).b = e.b := by split <;> exact ⟨rfl, rfl⟩
theorem fnd_upd (v' : Int × Int) : (fnd (upd al v u) v').map Ae.b = (fnd al v').map Ae.b := by
  unfold fnd upd
  induction al with
  | nil => rfl
  | cons a l ih =>
    rw [List.map_cons, List.find?_cons, List.find?_cons, (upd_vb a).1]
    cases decide (a.v = v')
    · exact ih
    simp only [Option.map_some, (upd_vb a).2]
theorem MM.one (h : MM w lo bm al) (he : e ∈ al) (hm : MapV w' e.b (e.us ++ [u])) (hg : w.grownBy w' (some e.b)) : MM w' lo bm (upd al e.v u) := by
  have hbm := h.lt
  obtain ⟨⟨D, n, a1, a2, a3, a4⟩, h2, h3, h4⟩ := h
  have hkeep : ∀ q, q < w.heap.size → q ≠ e.b → w'.heap[q]? = w.heap[q]? := fun q h1 h2 => hg.block q h1 (fun e2 => h2 (Option.some.inj e2))
  refine ⟨⟨D, n, owns_congr (hkeep bm hbm (Ne.symm (h3 e he).2.2.2)) a1, by unfold upd; rw [List.length_map]; exact a2, fun v kl z hk => ?_, fun kl hh => ?_⟩, h2, fun x hx => ?_, ?_⟩
  · rw [a3 v kl z hk]
    unfold atA
    have hfu := fnd_upd (al := al) (v := e.v) (u := u) v
    cases h5 : fnd al v <;> cases h6 : fnd (upd al e.v u) v <;> rw [h5, h6] at hfu <;> simp at hfu <;> simp [hfu]
  · obtain ⟨x, hx, hx2⟩ := a4 kl hh
    refine ⟨_, List.mem_map.2 ⟨x, hx, rfl⟩, ?_⟩
    rw [(upd_vb x).1]
    exact hx2
  · unfold upd at hx
    obtain ⟨y, hy, rfl⟩ := List.mem_map.1 hx
    obtain ⟨q1, q2, q3, q4⟩ := h3 y hy
    by_cases ey : y.v = e.v
    · have := (ap_eq h4 hy he).1 ey
      subst this
      rw [if_pos rfl]
      exact ⟨q1, hm, q3, q4⟩
    rw [if_neg ey]
    have hb : y.b ≠ e.b := fun e2 => ey (by rw [(ap_eq h4 hy he).2 e2])
    exact ⟨q1, q2.congr (hkeep y.b q2.lt hb), q3, q4⟩
  unfold upd
  rw [List.pairwise_map]
  refine h4.imp ?_
  intro a b ⟨h5, h6⟩
  rw [(upd_vb a).1, (upd_vb b).1, (upd_vb a).2, (upd_vb b).2]
  exact ⟨h5, h6⟩
end
structure RgM (w : World) (lo bm : Nat) (al : List Ae) (r : Nat) (D : DataW Unit) (n : Nat) (left : Lit → Bool) (cnt : Nat) : Prop where
  mm : MM w lo bm al
  out : OutM w bm al D n
  rg : w.ranges Try.prog 130 RB bm r n D left cnt
  hr : lo ≤ r
theorem ranges_congr {w w' : World} {b r n : Nat} {D : DataW Unit} {left : Lit → Bool} {cnt : Nat} (h : w.ranges Try.prog 130 RB b r n D left cnt) (e1 : w'.heap[b]? = w.heap[b]?) (e2 : w'.heap[r]? = w.heap[r]?) : w'.ranges Try.prog 130 RB b r n D left cnt := by
  obtain ⟨es, clock, since, seen, c0, hb, F, hs, hD, hr, rest⟩ := h
  exact ⟨es, clock, since, seen, c0, e1.trans hb, F, hs, hD, e2.trans hr, rest⟩
theorem ranges_cell {w : World} {b r n : Nat} {D : DataW Unit} {left : Lit → Bool} {cnt : Nat} (h : w.ranges Try.prog 130 RB b r n D left cnt) {g : Nat} {t : TypeId} {us : List Value} (hg : Blk w g t us) : g ≠ r := fun e => by
  subst e
  obtain ⟨es, clock, since, seen, c0, hb, F, hs, hD, hr, rest⟩ := h
  unfold Blk at hg
  rw [hg] at hr
  cases hr
theorem ranges_map {w : World} {b r n : Nat} {D : DataW Unit} {left : Lit → Bool} {cnt : Nat} (h : w.ranges Try.prog 130 RB b r n D left cnt) {g : Nat} (hg : IsM w g) : g ≠ r := fun e => by
  subst e
  obtain ⟨es', c', hg⟩ := hg
  obtain ⟨es, clock, since, seen, c0, hb, F, hs, hD, hr, rest⟩ := h
  rw [hg] at hr
  cases hr
section
variable {w w' : World} {lo bm r n : Nat} {al : List Ae} {D : DataW Unit} {left : Lit → Bool} {cnt : Nat}
theorem RgM.lt (h : RgM w lo bm al r D n left cnt) : bm < w.heap.size := h.mm.lt
theorem RgM.to (h : RgM w lo bm al r D n left cnt) (hb : Below w.heap.size w w') : RgM w' lo bm al r D n left cnt :=
  ⟨h.mm.to hb, ⟨owns_congr (hb.block bm h.mm.lt) h.out.1, h.out.2⟩, ranges_congr h.rg (hb.block bm h.mm.lt) (hb.block r h.rg.lt), h.hr⟩
theorem RgM.putB (h : RgM w lo bm al r D n left cnt) {g o : Nat} {t : TypeId} {us vs : List Value} (hg : Blk w g t us) : RgM (putL w g o vs) lo bm al r D n left cnt := by
  have e1 := putL_heap (Ne.symm (isM_ne h.mm.isM hg)) vs w o
  exact ⟨h.mm.putB hg, ⟨owns_congr e1 h.out.1, h.out.2⟩, ranges_congr h.rg e1 (putL_heap (Ne.symm (ranges_cell h.rg hg)) vs w o), h.hr⟩
theorem RgM.next (h : RgM w lo bm al r D n left cnt) {left' : Lit → Bool} {cnt' : Nat} (hg : w.grownBy w' (some r)) (hn : w'.ranges Try.prog 130 RB bm r n D left' cnt') : RgM w' lo bm al r D n left' cnt' := by
  have e0 := ranges_map h.rg h.mm.isM
  have m := h.mm.grown hg e0 (fun e he => ranges_map h.rg (h.mm.inn e he).2.1.isM)
  exact ⟨m, ⟨owns_congr (hg.block bm h.mm.lt (fun e2 => e0 (Option.some.inj e2))) h.out.1, h.out.2⟩, hn, h.hr⟩
end
def RMet (al : List Ae) (Q : Ae → Prop) (left : Lit → Bool) (m : Bool) : Prop := (m = true → ∃ e ∈ al, Q e) ∧ ∀ e ∈ al, ∀ kl, keyV e.v = some kl → left kl = false → Q e → m = true
section
variable {w : World} {lo bm n : Nat} {al : List Ae} {D : DataW Unit} {left : Lit → Bool} {Q : Ae → Prop} {e : Ae} {kl : Lit} {b : Bool}
theorem RMet.start (hm : MM w lo bm al) (ho : OutM w bm al D n) : RMet al Q (Maps.has D) false := ⟨fun h => (by cases h), fun e he kl hk hl _ => by
  have h1 : ∀ z, D.atKey kl z = .lit (.int .i64 (e.b : Int)) := fun z => by
    rw [ho.2.2.1 e.v kl z hk]
    unfold atA
    rw [fnd_mem hm.ap he]
  rw [Maps.has_true_of_atKey h1] at hl
  cases hl⟩
theorem RMet.keep (h : RMet al Q left true) {left' : Lit → Bool} : RMet al Q left' true := ⟨h.1, fun _ _ _ _ _ _ => rfl⟩
theorem RMet.done (h : RMet al Q left b) (hm : MM w lo bm al) (hl : ∀ kl, left kl = false) : b = bP (∃ e ∈ al, Q e) :=
  bP_of ⟨h.1, fun ⟨e, he, hq⟩ => let ⟨kl, hk⟩ := (hm.inn e he).1; h.2 e he kl hk (hl kl) hq⟩
end
end Go.Proofs.Ytddbmckbankmeaa
set_option linter.unusedVariables false
set_option linter.unusedSimpArgs false
namespace Go.Proofs.Ytddbmckbankmeaa
open Go.RowKit Go.ChangeShapes Go.WideShapes Go.ChangeAt Go.WideMaps Go.Joins
open Go.Maps (Keyed)
def Pre (X Y E : Nat) (x y e : Int) : Prop := x < X ∨ (x = X ∧ (y < Y ∨ (y = Y ∧ e < E)))
def CovS (f : Int → Int → Int) (g : Bool) (k : Nat) (n : Int) (X Y E : Nat) (v u : Int × Int) : Prop := ∃ x y e, Win n x y e ∧ Pre X Y E x y e ∧ Sym f g k x y ∧ vP g n k (x + n * e) y = v ∧ uP g n k (x + n * e) y = u
structure Cov (f : Int → Int → Int) (g : Bool) (k : Nat) (n : Int) (al : List Ae) (X Y E : Nat) : Prop where
  hiff : ∀ v u, (∃ e ∈ al, e.v = v ∧ u ∈ e.us) ↔ CovS f g k n X Y E v u
  ne : ∀ e ∈ al, e.us ≠ []
  len : ∃ c : Nat, (c : Int) ≤ 60 * X + 2 * Y + E ∧ al.length ≤ c ∧ ∀ e ∈ al, e.us.length ≤ c
section
variable {f : Int → Int → Int} {g : Bool} {k : Nat} {n : Int} {X Y E X' Y' E' : Nat} {al : List Ae} {u v : Int × Int}
theorem covS_congr (h : ∀ x y e, Win n x y e → Sym f g k x y → (Pre X Y E x y e ↔ Pre X' Y' E' x y e)) : CovS f g k n X Y E v u ↔ CovS f g k n X' Y' E' v u := by
  constructor
  · rintro ⟨x, y, e, hw, hp, hs, h2⟩
    exact ⟨x, y, e, hw, (h x y e hw hs).1 hp, hs, h2⟩
  rintro ⟨x, y, e, hw, hp, hs, h2⟩
  exact ⟨x, y, e, hw, (h x y e hw hs).2 hp, hs, h2⟩
theorem Cov.move (h : Cov f g k n al X Y E) (hc : ∀ x y e, Win n x y e → Sym f g k x y → (Pre X Y E x y e ↔ Pre X' Y' E' x y e)) (hl : (60 * X + 2 * Y + E : Int) ≤ 60 * X' + 2 * Y' + E') : Cov f g k n al X' Y' E' :=
  ⟨fun v u => (h.hiff v u).trans (covS_congr hc), h.ne, let ⟨c, h1, h2⟩ := h.len; ⟨c, Int.le_trans h1 hl, h2⟩⟩
theorem Cov.start : Cov f g k n [] 0 0 0 := ⟨fun v u => ⟨fun ⟨e, he, _⟩ => (by cases he), fun ⟨x, y, e, hw, hp, _⟩ => (by unfold Win at hw; unfold Pre at hp; omega)⟩, fun e he => (by cases he), 0, by omega, by simp, fun e he => (by cases he)⟩
theorem Cov.skip (h : Cov f g k n al X Y 0) (hs : ¬ Sym f g k X Y) : Cov f g k n al X (Y + 1) 0 := h.move (fun x y e hw h1 => by
  unfold Win at hw
  unfold Pre
  by_cases e2 : x = X ∧ y = Y
  · rw [e2.1, e2.2] at h1
    exact absurd h1 hs
  constructor <;> intro h2 <;> omega) (by omega)
theorem Cov.next (h : Cov f g k n al X Y 2) : Cov f g k n al X (Y + 1) 0 := h.move (fun x y e hw h1 => by
  unfold Win at hw
  unfold Pre
  constructor <;> intro h2 <;> omega) (by omega)
theorem Cov.row (h : Cov f g k n al X Y 0) (hn : n ≤ 30) (hY : n ≤ Y) (hY2 : (Y : Int) ≤ n) : Cov f g k n al (X + 1) 0 0 := h.move (fun x y e hw h1 => by
  unfold Win at hw
  unfold Pre
  constructor <;> intro h2 <;> omega) (by omega)
theorem Cov.all (h : Cov f g k n al X 0 0) (hX : n ≤ X) (v u : Int × Int) : (∃ e ∈ al, e.v = v ∧ u ∈ e.us) ↔ ∃ x y e, Win n x y e ∧ Sym f g k x y ∧ vP g n k (x + n * e) y = v ∧ uP g n k (x + n * e) y = u := by
  rw [h.hiff]
  constructor
  · rintro ⟨x, y, e, hw, hp, h2⟩
    exact ⟨x, y, e, hw, h2⟩
  rintro ⟨x, y, e, hw, h2⟩
  exact ⟨x, y, e, hw, by unfold Win at hw; unfold Pre; omega, h2⟩
end
section
variable {Q : Exit → Act → World → Prop} {ops : Array Oper} {rest : List Oper} {o : Oper} {a : Act} {w : World} {d lo bm b : Nat} {x y z : Operand} {al : List Ae} {u v : Int × Int} {us : List (Int × Int)} {kl : Lit}
end
section
variable {Q : Exit → Act → World → Prop} {o : Oper} {a : Act} {w : World} {d g k n j : Nat} {x y z : Operand} {a0 b0 c0 d0 : Int} {A : Option Addr}
end
theorem MM.lower {w : World} {lo lo' bm : Nat} {al : List Ae} (h : MM w lo bm al) (hl : lo' ≤ lo) : MM w lo' bm al := ⟨h.out, Nat.le_trans hl h.hlo, fun e he => ⟨(h.inn e he).1, (h.inn e he).2.1, Nat.le_trans hl (h.inn e he).2.2.1, (h.inn e he).2.2.2⟩, h.ap⟩
end Go.Proofs.Ytddbmckbankmeaa
set_option linter.unusedVariables false
set_option linter.unusedSimpArgs false
namespace Go.Proofs.Ytddbmckbankmeaa
open Go.RowKit
def OwnI (lo : Nat) (w : World) (v : Value) (xs : List Int) : Prop := w.ownsRow lo 3 1 v xs.length (ints xs)
section
variable {lo g o : Nat} {w w' : World} {v : Value} {xs : List Int} {vs : List Value}
theorem OwnI.to (h : OwnI lo w v xs) (hb : Below w.heap.size w w') : OwnI lo w' v xs := own_to h hb
theorem OwnI.put (h : OwnI lo w v xs) (hlt : ∀ k, v.ownBlock = some k → k < g) : OwnI lo (putL w g o vs) v xs := own_put hlt h
theorem OwnI.lt (h : OwnI lo w v xs) : ∀ k, v.ownBlock = some k → lo ≤ k ∧ k < w.heap.size := World.ownsRow.lt h
theorem OwnI.lower {lo' : Nat} (h : lo ≤ lo') (ho : OwnI lo' w v xs) : OwnI lo w v xs := by
  refine ⟨ho.1, ?_⟩
  rcases ho.2 with hn | ⟨g', cap, cur, rfl, hb, hgg, rest⟩
  · exact .inl hn
  exact .inr ⟨g', cap, cur, rfl, by omega, hgg, rest⟩
theorem Env.grownBy_ {row : Option Nat} : ∀ {L : List Ent}, Env w L → w.grownBy w' row → (∀ e ∈ L, some e.g ≠ row) → Env w' L
  | [], _, _, _ => trivial
  | e :: L, ⟨h1, h2, h3⟩, hg, hne => ⟨(hg.block e.g h1.lt (hne e (List.mem_cons_self ..))).trans h1, h2, Env.grownBy_ h3 hg (fun e' he => hne e' (List.mem_cons_of_mem _ he))⟩
theorem Env.alloc_ (o : Obj) {L : List Ent} (h : Env w L) : Env (w.alloc o) L := h.to (below_alloc (Below.refl _ _) o)
theorem group_not {W H : Nat} {ms : List Mv} (h : gB W H ms = true) (hs : sizeB W H = true) : ∀ i, i < ms.length → Al W H (nthM ms i) := ((gB_iff hs ms).1 h).1
end
end Go.Proofs.Ytddbmckbankmeaa
set_option linter.unusedVariables false
set_option linter.unusedSimpArgs false
namespace Go.Proofs.Ytddbmckbankmeaa
open Go.RowKit
theorem OwnI.cl {lo : Nat} {w : World} {v : Value} {xs : List Int} (h : OwnI lo w v xs) : ∃ A k, v = .slice A xs.length k ∧ RI w A xs ∧ (∀ ad, A = some ad → lo ≤ ad.block) ∧ xs.length ≤ k ∧ k ≤ 9223372036854775807 := by
  rcases h.2 with ⟨rfl, h0⟩ | ⟨g, cap, cur, rfl, hg, hh, hnc, hcm, hcs, htk⟩
  · have : xs = [] := List.eq_nil_of_length_eq_zero h0
    subst this
    exact ⟨none, 0, rfl, RI.nil _ _, (fun ad h => by cases h), Nat.le_refl _, by omega⟩
  refine ⟨some ⟨g, 0, none⟩, cap, rfl, fun _ => ⟨_, rfl, fun j hj => ?_⟩, (fun ad h => by rw [← Option.some.inj h]; exact hg), hnc, by unfold maxLen at hcm; omega⟩
  rw [addr_zero, cell_of_row w g j cur 3 (0, 0) hh, ← Array.getElem?_toList]
  have : cur.toList[j]? = (ints xs)[j]? := by
    rw [← htk, List.getElem?_take, if_pos (by omega)]
  rw [this, ints_get xs hj]
section
variable {Q : Exit → Act → World → Prop} {o : Oper} {a : Act} {w : World} {d : Nat} {x y z : Operand} {ad : Addr} {c lo : Nat} {v0 : Value} {xs ys : List Int} {R : Act → World → Prop}
end
def CellsI (w : World) (A : Option Addr) (ys : List Int) : Prop := RI w A ys ∧ ∀ ad, A = some ad → ∃ cur, w.heap[ad.block]? = some (.cells cur 3 (0, 0))
section
variable {w w' : World} {A : Option Addr} {ys : List Int} {lo : Nat} {k n : Nat}
theorem OwnI.ci (h : OwnI lo w (.slice A n k) ys) : CellsI w A ys := by
  refine ⟨?_, fun ad e => ?_⟩
  · obtain ⟨A', k', e, h1, _⟩ := OwnI.cl h
    injection e with e1 e2 e3
    rw [e1]
    exact h1
  rcases h.2 with ⟨e2, h0⟩ | ⟨g', cap, cur, e2, _, hh, _⟩
  · injection e2 with e3
    rw [e] at e3
    cases e3
  injection e2 with e3
  rw [e] at e3
  injection e3 with e3
  subst e3
  exact ⟨cur, hh⟩
theorem CellsI.to (h : CellsI w A ys) (hb : Below w.heap.size w w') : CellsI w' A ys := ⟨h.1.to hb, fun ad e => by
  obtain ⟨cur, hc⟩ := h.2 ad e
  have hlt : ad.block < w.heap.size := (Array.getElem?_eq_some_iff.1 hc).1
  exact ⟨cur, (hb.block _ hlt).trans hc⟩⟩
end
end Go.Proofs.Ytddbmckbankmeaa
set_option linter.unusedVariables false
set_option linter.unusedSimpArgs false
set_option linter.unusedSectionVars false
set_option linter.unnecessarySimpa false
namespace Go.Proofs.Ytddbmckbankmeaa
open Go.RowKit
section
variable {α : Type} [Inhabited α] {enc : α → List Value} {k g n : Nat} {t : TypeId} {w : World} {d d' : Array α} {rest : List Value} {os : Array Obj}
theorem flat_get (hk : ∀ x, (enc x).length = k) : ∀ (l : List α) (t : Nat), t < l.length * k → (l.flatMap enc)[t]? = some ((enc l[t / k]!)[t % k]!)
  | [], t, h => absurd h (by simp)
  | x :: l, t, h => by
    rw [List.flatMap_cons]
    have k0 : 0 < k := by
      rcases Nat.eq_zero_or_pos k with h0 | h0
      · subst h0; simp at h
      exact h0
    by_cases ht : t < k
    · rw [List.getElem?_append_left (by rw [hk]; exact ht), Nat.div_eq_of_lt ht, Nat.mod_eq_of_lt ht, List.getElem?_eq_getElem (by rw [hk]; exact ht)]
      simp [hk, ht]
    rw [List.getElem?_append_right (by rw [hk]; omega), hk, flat_get hk l (t - k) (by simp only [List.length_cons, Nat.add_mul, Nat.one_mul] at h; omega)]
    have e : t = t - k + k := by omega
    have e1 : t / k = (t - k) / k + 1 := by
      conv => lhs; rw [e]
      exact Nat.add_div_right _ k0
    have e2 : t % k = (t - k) % k := by
      conv => lhs; rw [e]
      exact Nat.add_mod_right _ _
    rw [e1, e2]
    simp
theorem flat_len (hk : ∀ x, (enc x).length = k) (l : List α) : (l.flatMap enc).length = l.length * k := by
  induction l with
  | nil => simp
  | cons x l ih => rw [List.flatMap_cons, List.length_append, ih, hk, List.length_cons, Nat.add_mul, Nat.one_mul]; omega
theorem bang (d : Array α) (i : Nat) : d.toList[i]! = d[i]! := Array.getElem!_toList
theorem holdsK_blk (hk : ∀ x, (enc x).length = k) (h : Blk w g t (d.toList.flatMap enc ++ rest)) : Go.Sort.HoldsK enc k w g 0 d := fun j hj => by
  rw [Go.Sort.size_flatK] at hj
  refine ⟨?_, h.frozen _⟩
  rw [Nat.zero_add, h.cell j, List.getElem?_append_left (by rw [flat_len hk]; simpa using hj), flat_get hk _ _ (by simpa using hj)]
  show _ = some (Go.Sort.flatK enc k d)[j]!
  rw [Go.Sort.get_flatK _ _ _ _ hj, bang d]
theorem sorted_blk (hk : ∀ x, (enc x).length = k) (h : Blk w g t (d.toList.flatMap enc ++ rest)) (hs : d'.size = d.size) : Blk (Go.Proofs.sortWorldK enc k w g 0 n d' os) g t (d'.toList.flatMap enc ++ rest) := by
  have hlt := h.lt
  have h' : w.heap[g]? = some (.cells (d.toList.flatMap enc ++ rest).toArray t (0, 0)) := h
  unfold Go.Proofs.sortWorldK Go.Sort.putRowK Go.Sort.putRow Go.Sort.mapBlock Go.Sort.grow Go.Sort.ahead Blk
  simp only
  rw [Array.getElem?_append_left (by simpa using hlt), Array.getElem?_modify, if_pos rfl, h', Option.map_some]
  unfold Go.Sort.onCells
  simp only
  congr 2
  apply Array.ext'
  unfold Go.Sort.putCells
  simp only [Array.toList_mapIdx]
  refine List.ext_getElem? fun q => ?_
  rw [List.getElem?_mapIdx, Go.Sort.size_flatK]
  by_cases hq : q < d'.size * k
  · rw [List.getElem?_append_left (by rw [flat_len hk]; simpa [← hs] using hq), List.getElem?_append_left (by rw [flat_len hk]; simpa using hq), flat_get hk _ _ (by simpa [← hs] using hq), flat_get hk _ _ (by simpa using hq), Option.map_some, if_pos ⟨by omega, by omega⟩, Nat.sub_zero, Go.Sort.get_flatK _ _ _ _ hq, bang d']
    rfl
  have hl : (d.toList.flatMap enc).length = (d'.toList.flatMap enc).length := by rw [flat_len hk, flat_len hk]; simp [hs]
  rw [List.getElem?_append_right (by rw [flat_len hk]; simpa [← hs] using hq), List.getElem?_append_right (by rw [flat_len hk]; simpa using hq), hl]
  cases rest[q - (d'.toList.flatMap enc).length]? with
  | none => rfl
  | some u => rw [Option.map_some, if_neg (by omega)]
theorem grownBy_sortK : w.grownBy (Go.Proofs.sortWorldK enc k w g 0 n d' os) (some g) := by
  unfold Go.Proofs.sortWorldK Go.Sort.putRowK Go.Sort.putRow Go.Sort.mapBlock Go.Sort.grow Go.Sort.ahead
  refine ⟨rfl, rfl, rfl, by simp, fun q hq hne => ?_⟩
  simp only
  rw [Array.getElem?_append_left (by simpa using hq), Array.getElem?_modify, if_neg (fun e => hne (by rw [e]))]
end
theorem cmpI_neg (x y : Int) : cmpI y x = - cmpI x y := by unfold cmpI; split <;> split <;> first | omega | (split <;> omega)
theorem cmpL_refl : ∀ xs : List Int, cmpL xs xs = 0
  | [] => rfl
  | x :: xs => by rw [cmpL, if_pos (cmpI_zero.2 rfl), cmpL_refl xs]
theorem cmpL_neg : ∀ xs ys : List Int, cmpL ys xs = - cmpL xs ys
  | [], [] => rfl
  | [], _ :: _ => rfl
  | _ :: _, [] => rfl
  | x :: xs, y :: ys => by
    rw [cmpL, cmpL, cmpI_neg x y, cmpL_neg xs ys]
    by_cases h : cmpI x y = 0
    · rw [if_pos h, if_pos (by omega)]
    rw [if_neg h, if_neg (by omega)]
theorem cmpL_zero : ∀ {xs ys : List Int}, cmpL xs ys = 0 → xs = ys
  | [], [], _ => rfl
  | [], _ :: _, h => by simp [cmpL] at h
  | _ :: _, [], h => by simp [cmpL] at h
  | x :: xs, y :: ys, h => by
    rw [cmpL] at h
    split at h
    · next h0 => rw [cmpI_zero.1 h0, cmpL_zero h]
    next h0 => exact absurd h h0
theorem cmpL_trans : ∀ {xs ys zs : List Int}, cmpL xs ys < 0 → cmpL ys zs < 0 → cmpL xs zs < 0
  | [], [], _, h, _ => by simp [cmpL] at h
  | [], _ :: _, [], _, h => by simp [cmpL] at h
  | [], _ :: _, _ :: _, _, _ => by simp [cmpL]
  | _ :: _, [], _, h, _ => by simp [cmpL] at h
  | _ :: _, _ :: _, [], _, h => by simp [cmpL] at h
  | x :: xs, y :: ys, z :: zs, h, k => by
    rw [cmpL] at h k ⊢
    have a := cmpI_lt x y
    have b := cmpI_lt y z
    have c := cmpI_lt x z
    by_cases h1 : cmpI x y = 0
    · rw [if_pos h1] at h
      by_cases h2 : cmpI y z = 0
      · rw [if_pos h2] at k
        rw [if_pos (by omega)]
        exact cmpL_trans h k
      rw [if_neg h2] at k
      rw [if_neg (by omega)]
      omega
    rw [if_neg h1] at h
    by_cases h2 : cmpI y z = 0
    · rw [if_neg (by omega)]
      omega
    rw [if_neg h2] at k
    rw [if_neg (by omega)]
    omega
theorem ordT_same (W H : Int) (xs ys : List Int) : ordT W H xs W H ys = cmpL xs ys := by
  unfold ordT orL
  rw [if_pos (cmpI_zero.2 rfl), orL, if_pos (cmpI_zero.2 rfl), orL, orL]
  split
  · next h => exact h.symm
  rfl
theorem swo_of {α : Type} [Inhabited α] (cf : α → α → Int) (hn : ∀ x y, cf y x = - cf x y) (hz : ∀ x y z, cf x y = 0 → cf x z = cf y z ∧ cf z x = cf z y) (ht : ∀ x y z, cf x y < 0 → cf y z < 0 → cf x z < 0) : Go.Sort.SWO (ltOf cf) where
  irrefl x := by have := hn x x; unfold ltOf; simp; omega
  trans x y z h k := by unfold ltOf at *; simp at *; exact ht x y z h k
  ntrans x y z h k := by
    unfold ltOf at *
    simp at *
    by_cases h1 : cf x y = 0
    · rw [(hz x y z h1).1]; exact k
    by_cases h2 : cf y z = 0
    · rw [← (hz y z x h2).2]; exact h
    have := ht z y x (by rw [hn y z]; omega) (by rw [hn x y]; omega)
    rw [hn x z] at this
    omega
end Go.Proofs.Ytddbmckbankmeaa
