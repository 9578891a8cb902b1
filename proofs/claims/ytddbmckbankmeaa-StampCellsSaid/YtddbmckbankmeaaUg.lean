/- The two tests of a group are one: plain. -/
import Derived.Test.YtddbmckbankmeaaUf
set_option linter.unusedVariables false
set_option linter.unusedSimpArgs false
namespace Go.Proofs.Ytddbmckbankmeaa
open Go.RowKit
theorem lex_lt {H a b x y : Int} (hx : 0 ≤ x ∧ x < H) (hy : 0 ≤ y ∧ y < H) : a * H + x < b * H + y ↔ a < b ∨ (a = b ∧ x < y) := by
  rcases Int.lt_trichotomy a b with h | h | h
  · have := Int.mul_le_mul_of_nonneg_right (show a + 1 ≤ b by omega) (show 0 ≤ H by omega)
    rw [Int.add_mul, Int.one_mul] at this
    omega
  · subst h
    omega
  · have := Int.mul_le_mul_of_nonneg_right (show b + 1 ≤ a by omega) (show 0 ≤ H by omega)
    rw [Int.add_mul, Int.one_mul] at this
    omega
theorem cmpI_lt (x y : Int) : (x < y ∧ cmpI x y = -1) ∨ (x = y ∧ cmpI x y = 0) ∨ (y < x ∧ cmpI x y = 1) := by
  unfold cmpI
  split
  · omega
  · split <;> omega
theorem ord_lt (a b : Mv) : ordM a b < 0 ↔ (a.f = false ∧ b.f = true) ∨ (a.f = b.f ∧ (a.t < b.t ∨ (a.t = b.t ∧ (a.x < b.x ∨ (a.x = b.x ∧ a.y < b.y))))) := by
  unfold ordM
  simp only [orL]
  rcases cmpI_lt a.t b.t with ⟨h1, e1⟩ | ⟨h1, e1⟩ | ⟨h1, e1⟩ <;> rcases cmpI_lt a.x b.x with ⟨h2, e2⟩ | ⟨h2, e2⟩ | ⟨h2, e2⟩ <;> rcases cmpI_lt a.y b.y with ⟨h3, e3⟩ | ⟨h3, e3⟩ | ⟨h3, e3⟩ <;> rw [e1, e2, e3] <;> cases a.f <;> cases b.f <;> simp <;> omega
theorem ord_num {W H : Int} {a b : Mv} (h : Al W H a) (k : Al W H b) : ordM a b < 0 ↔ numM W H a < numM W H b := by
  have h1 := num_low h
  have k1 := num_low k
  have e1 := lex_lt (H := H) (a := a.t * W + a.x) (b := b.t * W + b.x) h.y k.y
  have e2 := lex_lt (H := W) (a := a.t) (b := b.t) h.x k.x
  have e3 : a.t * W + a.x = b.t * W + b.x ↔ a.t = b.t ∧ a.x = b.x := ⟨fun e => num_digits (W := W) h.x k.x e, fun ⟨e, f⟩ => by rw [e, f]⟩
  rw [ord_lt]
  unfold numM
  cases hf : a.f <;> cases hg : b.f <;> simp <;> omega
/-- Lists that rise by a number and have the same members are one. -/
theorem rising_eq (f : Mv → Int) : ∀ (l m : List Mv), l.Pairwise (fun a b => f a < f b) → m.Pairwise (fun a b => f a < f b) → (∀ x, x ∈ l ↔ x ∈ m) → l = m
  | [], [], _, _, _ => rfl
  | [], b :: m, _, _, h => by have := (h b).2 (List.mem_cons_self ..); cases this
  | a :: l, [], _, _, h => by have := (h a).1 (List.mem_cons_self ..); cases this
  | a :: l, b :: m, h1, h2, h => by
    rw [List.pairwise_cons] at h1 h2
    have hab : a = b := by
      rcases List.mem_cons.1 ((h a).1 (List.mem_cons_self ..)) with e | e
      · exact e
      · rcases List.mem_cons.1 ((h b).2 (List.mem_cons_self ..)) with e' | e'
        · exact e'.symm
        · have := h1.1 b e'
          have := h2.1 a e
          omega
    subst hab
    have hm : ∀ x, x ∈ l ↔ x ∈ m := by
      intro x
      constructor
      · intro hx
        rcases List.mem_cons.1 ((h x).1 (List.mem_cons_of_mem _ hx)) with e | e
        · subst e; have := h1.1 x hx; omega
        · exact e
      · intro hx
        rcases List.mem_cons.1 ((h x).2 (List.mem_cons_of_mem _ hx)) with e | e
        · subst e; have := h2.1 x hx; omega
        · exact e
    rw [rising_eq f l m h1.2 h2.2 hm]
/-! The list of all moves rises. -/
def OR (a b : Mv) : Prop := ordM a b < 0
theorem rise4 (W H : Nat) (f : Bool) (t x : Nat) : ∀ n, (mvs4 W H f t x n).Pairwise OR
  | 0 => List.Pairwise.nil
  | n + 1 => by
    simp only [mvs4]
    rw [List.pairwise_append]
    refine ⟨rise4 W H f t x n, by split <;> simp, fun a ha b hb => ?_⟩
    obtain ⟨y, hy, rfl, _⟩ := (mem4 W H f t x a n).1 ha
    split at hb
    · rw [List.mem_singleton.1 hb]
      show ordM _ _ < 0
      rw [ord_lt]
      simp
      omega
    · cases hb
theorem rise3 (W H : Nat) (f : Bool) (t : Nat) : ∀ n, (mvs3 W H f t n).Pairwise OR
  | 0 => List.Pairwise.nil
  | n + 1 => by
    simp only [mvs3]
    rw [List.pairwise_append]
    refine ⟨rise3 W H f t n, rise4 W H f t n H, fun a ha b hb => ?_⟩
    obtain ⟨x, hx, ha⟩ := (mem3 W H f t a n).1 ha
    obtain ⟨y, hy, rfl, _⟩ := (mem4 W H f t x a H).1 ha
    obtain ⟨z, hz, rfl, _⟩ := (mem4 W H f t n b H).1 hb
    show ordM _ _ < 0
    rw [ord_lt]
    simp
    omega
theorem rise2 (W H : Nat) (f : Bool) : ∀ n, (mvs2 W H f n).Pairwise OR
  | 0 => List.Pairwise.nil
  | n + 1 => by
    simp only [mvs2]
    rw [List.pairwise_append]
    refine ⟨rise2 W H f n, rise3 W H f n W, fun a ha b hb => ?_⟩
    obtain ⟨t, ht, ha⟩ := (mem2 W H f a n).1 ha
    obtain ⟨x, hx, ha⟩ := (mem3 W H f t a W).1 ha
    obtain ⟨y, hy, rfl, _⟩ := (mem4 W H f t x a H).1 ha
    obtain ⟨x', hx', hb⟩ := (mem3 W H f n b W).1 hb
    obtain ⟨z, hz, rfl, _⟩ := (mem4 W H f n x' b H).1 hb
    show ordM _ _ < 0
    rw [ord_lt]
    simp
    omega
theorem f_of2 {W H : Nat} {f : Bool} {n : Nat} {m : Mv} (h : m ∈ mvs2 W H f n) : m.f = f := by
  obtain ⟨t, ht, h⟩ := (mem2 W H f m n).1 h
  obtain ⟨x, hx, h⟩ := (mem3 W H f t m W).1 h
  obtain ⟨y, hy, rfl, _⟩ := (mem4 W H f t x m H).1 h
  rfl
theorem rise1 (W H : Nat) : (mvs1 W H 2).Pairwise OR := by
  show ((([] ++ mvs2 W H (bo 0) 4)) ++ mvs2 W H (bo 1) 4).Pairwise OR
  rw [List.nil_append, List.pairwise_append]
  refine ⟨rise2 W H _ 4, rise2 W H _ 4, fun a ha b hb => ?_⟩
  show ordM _ _ < 0
  rw [ord_lt]
  left
  exact ⟨f_of2 ha, f_of2 hb⟩
theorem rise_num {W H : Nat} (hs : sizeB W H = true) : (mvs1 W H 2).Pairwise (fun a b => numM W H a < numM W H b) := by
  have h := rise1 W H
  refine h.imp_of_mem ?_
  intro a b ha hb hab
  exact (ord_num ((mem_moves hs a).1 ha) ((mem_moves hs b).1 hb)).1 hab
theorem mem_nthM {ms : List Mv} {m : Mv} : m ∈ ms ↔ ∃ i, i < ms.length ∧ nthM ms i = m := by
  constructor
  · intro h
    obtain ⟨i, hi, e⟩ := List.mem_iff_getElem.1 h
    exact ⟨i, hi, nthM_at (by rw [List.getElem?_eq_getElem hi, e])⟩
  · rintro ⟨i, hi, rfl⟩
    have := at_nthM hi
    exact List.mem_of_getElem? this
/-- What the program's test says, in words. -/
theorem gB_iff {W H : Nat} (hs : sizeB W H = true) (ms : List Mv) : gB W H ms = true ↔
    (∀ i, i < ms.length → Al W H (nthM ms i)) ∧ ms.Pairwise (fun a b => numM W H a < numM W H b) ∧ memB ⟨0, 0, 0, false⟩ ms = true ∧ ∀ i j, i < ms.length → j < ms.length → memB (aftM W H (nthM ms i) (nthM ms j)) ms = true := by
  unfold gB closB
  simp only [Bool.and_eq_true, List.all_eq_true, List.mem_range]
  constructor
  · rintro ⟨h1, h2, h3⟩
    have hal : ∀ i, i < ms.length → Al W H (nthM ms i) := fun i hi => by
      have := h1 i hi
      unfold stepB at this
      rw [Bool.and_eq_true] at this
      exact al_of (f := (nthM ms i).f) hs this.1
    refine ⟨hal, ?_, h2, fun i j hi hj => h3 i hi j hj⟩
    have hst : ∀ i, 0 < i → i < ms.length → numM W H (nthM ms (i - 1)) < numM W H (nthM ms i) := fun i h0 hi => by
      have := h1 i hi
      unfold stepB at this
      simp only [Bool.and_eq_true, Bool.or_eq_true, decide_eq_true_eq] at this
      exact (ord_num (hal _ (by omega)) (hal _ hi)).1 (this.2.resolve_left (by omega))
    have hup : ∀ d i, i + d + 1 < ms.length → numM W H (nthM ms i) < numM W H (nthM ms (i + d + 1)) := by
      intro d
      induction d with
      | zero => intro i hi; have := hst (i + 1) (by omega) (by omega); simpa using this
      | succ d ih =>
        intro i hi
        have a1 := ih i (by omega)
        have a2 := hst (i + (d + 1) + 1) (by omega) hi
        rw [show i + (d + 1) + 1 - 1 = i + d + 1 by omega] at a2
        omega
    rw [List.pairwise_iff_getElem]
    intro i j hi hj hij
    have := hup (j - i - 1) i (by omega)
    rw [show i + (j - i - 1) + 1 = j by omega] at this
    rwa [nthM_at (List.getElem?_eq_getElem hi), nthM_at (List.getElem?_eq_getElem hj)] at this
  · rintro ⟨hal, hp, h2, h3⟩
    refine ⟨fun i hi => ?_, h2, fun i hi j hj => h3 i j hi hj⟩
    unfold stepB
    simp only [Bool.and_eq_true, Bool.or_eq_true, decide_eq_true_eq]
    refine ⟨(hal i hi).al, ?_⟩
    by_cases h0 : i = 0
    · exact .inl h0
    · right
      rw [ord_num (hal _ (by omega)) (hal _ hi)]
      have := (List.pairwise_iff_getElem.1 hp) (i - 1) i (by omega) hi (by omega)
      rwa [nthM_at (List.getElem?_eq_getElem (show i - 1 < ms.length by omega)), nthM_at (List.getElem?_eq_getElem hi)]
theorem gB_list {W H : Nat} (hs : sizeB W H = true) {ms : List Mv} (h : gB W H ms = true) : ms = (mvs1 W H 2).filter fun x => memB x ms := by
  obtain ⟨hal, hp, _, _⟩ := (gB_iff hs ms).1 h
  refine rising_eq (numM W H) _ _ hp ((rise_num hs).filter _) (fun x => ?_)
  rw [List.mem_filter]
  constructor
  · intro hx
    obtain ⟨i, hi, e⟩ := mem_nthM.1 hx
    exact ⟨(mem_moves hs x).2 (e ▸ hal i hi), memB_iff.2 hx⟩
  · rintro ⟨_, hx⟩
    exact memB_iff.1 hx
theorem moves_len {W H : Nat} (hW : W ≤ 8) (hH : H ≤ 8) : (mvs1 W H 2).length ≤ 512 := len1 W H hW hH 2
theorem len4' (W H : Nat) (f : Bool) (t x : Nat) : (mvs4 W H f t x H).length ≤ H := len4 W H f t x H
theorem len3' (W H : Nat) (f : Bool) (t : Nat) : ∀ n, (mvs3 W H f t n).length ≤ n * H
  | 0 => by simp [mvs3]
  | n + 1 => by
    have := len3' W H f t n
    have := len4 W H f t n H
    simp only [mvs3, List.length_append, Nat.add_mul, Nat.one_mul]
    omega
theorem len2' (W H : Nat) (f : Bool) : ∀ n, (mvs2 W H f n).length ≤ n * (W * H)
  | 0 => by simp [mvs2]
  | n + 1 => by
    have := len2' W H f n
    have := len3' W H f n W
    simp only [mvs2, List.length_append, Nat.add_mul, Nat.one_mul]
    omega
theorem len1' (W H : Nat) : (mvs1 W H 2).length ≤ 8 * (W * H) := by
  have a := len2' W H (bo 0) 4
  have b := len2' W H (bo 1) 4
  show (([] ++ mvs2 W H (bo 0) 4) ++ mvs2 W H (bo 1) 4).length ≤ _
  simp only [List.length_append, List.length_nil]
  omega
/-- The two tests are one. -/
theorem group_same {W H : Nat} (hs : sizeB W H = true) (ms : List Mv) : gB W H (ms.take 521) = rGB W H ms := by
  have hb := sizeB_bounds hs
  cases hg : gB W H (ms.take 521)
  · symm
    refine rGB_no (fun h => ?_)
    have hl : ms.length ≤ 512 := by
      have := congrArg List.length h.ord
      have h2 := List.length_filter_le (fun x => memB x ms) (mvs1 W H 2)
      have h3 := moves_len (W := W) (H := H) (by omega) (by omega)
      omega
    rw [List.take_of_length_le (by omega)] at hg
    have : gB W H ms = true := by
      rw [gB_iff hs]
      refine ⟨fun i hi => al_of (f := (nthM ms i).f) hs (h.fit i hi), ?_, h.zero, h.clo⟩
      rw [h.ord]
      exact (rise_num hs).filter _
    rw [this] at hg
    cases hg
  · symm
    have e := gB_list hs hg
    have h3 := moves_len (W := W) (H := H) (by omega) (by omega)
    have hl : (ms.take 521).length ≤ 512 := by
      have := congrArg List.length e
      have h2 := List.length_filter_le (fun x => memB x (ms.take 521)) (mvs1 W H 2)
      omega
    have hm : ms.length ≤ 521 := by
      rw [List.length_take] at hl
      omega
    rw [List.take_of_length_le hm] at hg e hl
    obtain ⟨hal, hp, h2, h4⟩ := (gB_iff hs ms).1 hg
    refine rGB_yes ⟨?_, ?_, fun i hi => (hal i hi).al, e, h4, h2⟩
    · obtain ⟨i, hi, _⟩ := mem_nthM.1 (memB_iff.1 h2)
      omega
    · have := congrArg List.length e
      have h5 := List.length_filter_le (fun x => memB x ms) (mvs1 W H 2)
      have h6 := len1' W H
      have : ms.length ≤ 8 * (W * H) := by omega
      have e8 : (8 * (W : Int) * (H : Int)) = ((8 * (W * H) : Nat) : Int) := by
        rw [Int.natCast_mul, Int.natCast_mul, ← Int.mul_assoc]
        rfl
      rw [e8]
      omega
end Go.Proofs.Ytddbmckbankmeaa
