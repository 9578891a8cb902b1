/- Part 9 of the texts behind this claim. -/
import Derived.Laws.StructEq
import Derived.OwnWalk
import Derived.WalkKit
import Derived.DataElems
import Derived.Maps.OwnOps
import Derived.Maps.Views
import Derived.Maps.OwnSet
import Derived.WideKeyArgs2
import Derived.DeepKeys4
import Derived.MapViews
import Derived.ChangeSame
import Derived.Lib.SmallJoins
import Derived.Test.YtddbmckbankmeaaKs8
set_option linter.unusedVariables false
set_option linter.unusedSimpArgs false
namespace Go.Proofs.Ytddbmckbankmeaa
def Per (n : Int) (f : Int → Int → Int) : Prop := ∀ x y i j : Int, f (x + n * i) (y + n * j) = f x y
def Sym (f : Int → Int → Int) (g : Bool) (k : Nat) (a b : Int) : Prop := ∀ x y : Int, f ((trn g x y k).1 + a) ((trn g x y k).2 + b) = f x y
def SymN (n : Int) (f : Int → Int → Int) (g : Bool) (k : Nat) (a b : Int) : Prop := ∀ x y : Int, 0 ≤ x → x < n → 0 ≤ y → y < n → f ((trn g x y k).1 + a) ((trn g x y k).2 + b) = f x y
def Ex (f : Int → Int → Int) (g : Bool) (k : Nat) : Prop := ∃ a b, Sym f g k a b
noncomputable def bP (p : Prop) : Bool := @decide p (Classical.propDecidable p)
theorem bP_true {p : Prop} : bP p = true ↔ p := by
  unfold bP
  exact @decide_eq_true_iff p (Classical.propDecidable p)
theorem bP_false {p : Prop} : bP p = false ↔ ¬p := by
  unfold bP
  exact @decide_eq_false_iff_not p (Classical.propDecidable p)
theorem bP_congr {p q : Prop} (h : p ↔ q) : bP p = bP q := by rw [propext h]
theorem bP_not {p : Prop} : (!bP p) = bP (¬p) := by
  by_cases h : p
  · rw [bP_true.2 h, bP_false.2 (fun k => k h)]
    rfl
  · rw [bP_false.2 h, bP_true.2 h]
    rfl
theorem bP_of {b : Bool} {p : Prop} (h : b = true ↔ p) : b = bP p := by
  by_cases hp : p
  · rw [bP_true.2 hp, h.2 hp]
  · rw [bP_false.2 hp]
    cases b
    · rfl
    · exact absurd (h.1 rfl) hp
theorem trn_lin (g : Bool) (x y n i j : Int) : ∀ k, trn g (x + n * i) (y + n * j) k = ((trn g x y k).1 + n * (trn g i j k).1, (trn g x y k).2 + n * (trn g i j k).2)
  | 0 => by cases g <;> simp [trn, Int.mul_neg] <;> omega
  | k + 1 => by
    simp only [trn, trn_lin g x y n i j k, rot, Int.mul_neg]
    congr 1
    omega
section
variable {n : Int} {f : Int → Int → Int} {g : Bool} {k : Nat} {a b : Int}
theorem Sym.shift (hp : Per n f) (h : Sym f g k a b) (i j : Int) : Sym f g k (a + n * i) (b + n * j) := fun x y => by
  rw [← Int.add_assoc, ← Int.add_assoc, hp]
  exact h x y
theorem sym_iff (hn : 0 < n) (hp : Per n f) : SymN n f g k a b ↔ Sym f g k a b := by
  constructor
  · intro h x y
    have e := h (x % n) (y % n) (Int.emod_nonneg _ (by omega)) (Int.emod_lt_of_pos _ hn) (Int.emod_nonneg _ (by omega)) (Int.emod_lt_of_pos _ hn)
    have e2 := hp (x % n) (y % n) (x / n) (y / n)
    rw [Int.emod_add_mul_ediv, Int.emod_add_mul_ediv] at e2
    rw [e2, ← e]
    have e3 := trn_lin g (x % n) (y % n) n (x / n) (y / n) k
    rw [Int.emod_add_mul_ediv, Int.emod_add_mul_ediv] at e3
    rw [e3]
    show f (_ + n * _ + a) (_ + n * _ + b) = _
    rw [show ∀ p q r : Int, p + q + r = p + r + q from fun p q r => by omega, show ∀ p q : Int, p + q + b = p + b + q from fun p q => by omega]
    exact hp _ _ _ _
  · intro h x y _ _ _ _
    exact h x y
end
def far : Nat → Int → Int → Int
  | 0, _, b => b
  | 1, a, b => a - b
  | 2, a, _ => a
  | _, a, b => a + b
def axi : Nat → Int → Int → Int
  | 0, a, _ => a
  | 1, a, b => -a - b
  | 2, _, b => -b
  | _, a, b => a - b
def md (n : Int) : Nat → Int
  | 0 => n
  | 1 => 2 * n
  | 2 => n
  | _ => 2 * n
def Mir (f : Int → Int → Int) (k : Nat) : Prop := ∃ a b, Sym f true k a b ∧ far k a b = 0
def Cen (f : Int → Int → Int) (k : Nat) : Prop := ∃ a b, Sym f true k a b ∧ ∀ a' b', Sym f true k a' b' → axi k a' b' = axi k a b → far k a' b' ≠ 0
def Cg (m x y : Int) : Prop := ∃ p : Int, y = x + m * p
theorem cg_iff {m x y : Int} : x % m = y % m ↔ Cg m x y := by
  constructor
  · intro h
    have h1 := Int.emod_add_mul_ediv x m
    have h2 := Int.emod_add_mul_ediv y m
    refine ⟨y / m - x / m, ?_⟩
    rw [Int.mul_sub]
    omega
  · rintro ⟨p, rfl⟩
    exact (Int.add_mul_emod_self_left x m p).symm
theorem Cg.symm {m x y : Int} (h : Cg m x y) : Cg m y x := cg_iff.1 (cg_iff.2 h).symm
theorem Cg.trans {m x y z : Int} (h : Cg m x y) (h' : Cg m y z) : Cg m x z := cg_iff.1 ((cg_iff.2 h).trans (cg_iff.2 h'))
theorem Cg.refl (m x : Int) : Cg m x x := ⟨0, by simp⟩
section
variable {n : Int} {f : Int → Int → Int} {k : Nat} {a b : Int}
theorem four (hk : k < 4) : k = 0 ∨ k = 1 ∨ k = 2 ∨ k = 3 := by omega
theorem reach (hk : k < 4) {F A : Int} (hF : Cg (md n k) (far k a b) F) (hA : Cg (md n k) (axi k a b) A) : ∃ i j : Int, far k (a + n * i) (b + n * j) = F ∧ axi k (a + n * i) (b + n * j) = A := by
  obtain ⟨p, rfl⟩ := hF
  obtain ⟨q, rfl⟩ := hA
  rcases four hk with rfl | rfl | rfl | rfl
  · exact ⟨q, p, rfl, rfl⟩
  · refine ⟨p - q, -p - q, ?_, ?_⟩ <;> simp only [far, axi, md, Int.mul_sub, Int.mul_neg, Int.mul_assoc] <;> omega
  · refine ⟨p, -q, ?_, ?_⟩ <;> simp only [far, axi, md, Int.mul_sub, Int.mul_neg, Int.mul_assoc] <;> omega
  · refine ⟨p + q, p - q, ?_, ?_⟩ <;> simp only [far, axi, md, Int.mul_sub, Int.mul_add, Int.mul_neg, Int.mul_assoc] <;> omega
theorem window (hn : 0 < n) (hk : k < 4) (a b : Int) : ∃ x y e i j : Int, ((0 ≤ x ∧ x < n) ∧ 0 ≤ y ∧ y < n) ∧ (e = 0 ∨ e = 1) ∧ x = a + n * i ∧ y = b + n * j ∧ Cg (md n k) (far k a b) (far k (x + n * e) y) ∧ Cg (md n k) (axi k a b) (axi k (x + n * e) y) := by
  have h1 := Int.emod_add_mul_ediv a n
  have h2 := Int.emod_add_mul_ediv b n
  have h3 := Int.emod_nonneg a (show n ≠ 0 by omega)
  have h4 := Int.emod_lt_of_pos a hn
  have h5 := Int.emod_nonneg b (show n ≠ 0 by omega)
  have h6 := Int.emod_lt_of_pos b hn
  have key : ∀ e : Int, (e = 0 ∨ e = 1) → (∃ p q, far k (a + n * (-(a / n) + e)) (b + n * -(b / n)) = far k a b + md n k * p ∧ axi k (a + n * (-(a / n) + e)) (b + n * -(b / n)) = axi k a b + md n k * q) →
      ∃ x y e i j : Int, ((0 ≤ x ∧ x < n) ∧ 0 ≤ y ∧ y < n) ∧ (e = 0 ∨ e = 1) ∧ x = a + n * i ∧ y = b + n * j ∧ Cg (md n k) (far k a b) (far k (x + n * e) y) ∧ Cg (md n k) (axi k a b) (axi k (x + n * e) y) := by
    rintro e he ⟨p, q, hp, hq⟩
    refine ⟨a % n, b % n, e, -(a / n), -(b / n), ⟨⟨h3, h4⟩, h5, h6⟩, he, by rw [Int.mul_neg]; omega, by rw [Int.mul_neg]; omega, ⟨p, ?_⟩, ⟨q, ?_⟩⟩
    · rw [← hp]
      congr 1
      · rw [Int.mul_add, Int.mul_neg]; omega
      · rw [Int.mul_neg]; omega
    · rw [← hq]
      congr 1
      · rw [Int.mul_add, Int.mul_neg]; omega
      · rw [Int.mul_neg]; omega
  generalize a / n = i at key
  generalize b / n = j at key
  rcases four hk with rfl | rfl | rfl | rfl
  · exact key 0 (Or.inl rfl) ⟨-j, -i, by simp [far, md], by simp [axi, md]⟩
  · obtain ⟨q, hq⟩ : ∃ q, i = j + (i - j) % 2 + 2 * q := ⟨(i - j) / 2, by omega⟩
    generalize hE : (i - j) % 2 = e at hq
    refine key e (by omega) ⟨-q, q + j, ?_, ?_⟩ <;> subst hq <;> simp only [far, axi, md, Int.mul_sub, Int.mul_add, Int.mul_neg, Int.mul_assoc, Int.mul_left_comm n 2] <;> omega
  · exact key 0 (Or.inl rfl) ⟨-i, j, by simp [far, md], by simp [axi, md, Int.mul_neg]; omega⟩
  · obtain ⟨q, hq⟩ : ∃ q, i = j + (i - j) % 2 + 2 * q := ⟨(i - j) / 2, by omega⟩
    generalize hE : (i - j) % 2 = e at hq
    refine key e (by omega) ⟨-q - j, -q, ?_, ?_⟩ <;> subst hq <;> simp only [far, axi, md, Int.mul_sub, Int.mul_add, Int.mul_neg, Int.mul_assoc, Int.mul_left_comm n 2] <;> omega
end
def uP (g : Bool) (n : Int) (k : Nat) (x y : Int) : Int × Int := ((x + (trn g x y k).1) % (2 * n), (y + (trn g x y k).2) % (2 * n))
def vP (g : Bool) (n : Int) (k : Nat) (x y : Int) : Int × Int := ((x - (trn g x y k).1) % (2 * n), (y - (trn g x y k).2) % (2 * n))
def Win (n : Int) (x y e : Int) : Prop := ((0 ≤ x ∧ x < n) ∧ 0 ≤ y ∧ y < n) ∧ (e = 0 ∨ e = 1)
def MirP (n : Int) (f : Int → Int → Int) (g : Bool) (k : Nat) : Prop := ∃ x y e, Win n x y e ∧ Sym f g k x y ∧ uP g n k (x + n * e) y = (0, 0)
def CenP (n : Int) (f : Int → Int → Int) (g : Bool) (k : Nat) : Prop := ∃ x y e, Win n x y e ∧ Sym f g k x y ∧ ∀ x' y' e', Win n x' y' e' → Sym f g k x' y' → vP g n k (x' + n * e') y' = vP g n k (x + n * e) y → uP g n k (x' + n * e') y' ≠ (0, 0)
theorem zmod (m : Int) : (0 : Int) % m = 0 := Int.zero_emod m
theorem cg0 {m x : Int} : x % m = 0 ↔ Cg m x 0 := by
  rw [← cg_iff, zmod]
theorem cg_two {n x y : Int} : Cg (2 * n) (2 * x) (2 * y) ↔ Cg n x y := by
  constructor
  · rintro ⟨p, hp⟩
    refine ⟨p, ?_⟩
    rw [Int.mul_assoc] at hp
    omega
  · rintro ⟨p, hp⟩
    refine ⟨p, ?_⟩
    rw [Int.mul_assoc]
    omega
theorem cg_two0 {n x : Int} : Cg (2 * n) (2 * x) 0 ↔ Cg n x 0 := by
  have h := cg_two (n := n) (x := x) (y := 0)
  simpa using h
theorem cg_neg {m x y : Int} : Cg m (-x) (-y) ↔ Cg m x y := by
  constructor
  · rintro ⟨p, hp⟩
    refine ⟨-p, ?_⟩
    rw [Int.mul_neg]
    omega
  · rintro ⟨p, hp⟩
    refine ⟨-p, ?_⟩
    rw [Int.mul_neg]
    omega
theorem u_zero {n : Int} {k : Nat} (hk : k < 4) (x y : Int) : uP true n k x y = (0, 0) ↔ Cg (md n k) (far k x y) 0 := by
  rcases four hk with rfl | rfl | rfl | rfl
  · simp only [uP, trn, rot, if_pos, Prod.mk.injEq, cg0, far, md]
    rw [show x + -x = 0 by omega, show y + y = 2 * y by omega, cg_two0]
    exact ⟨fun h => h.2, fun h => ⟨Cg.refl _ _, h⟩⟩
  · simp only [uP, trn, rot, if_pos, Prod.mk.injEq, cg0, far, md]
    rw [show x + -y = x - y by omega, show y + -x = -(x - y) by omega]
    refine ⟨fun h => h.1, fun h => ⟨h, ?_⟩⟩
    have := cg_neg.2 h
    simpa using this
  · simp only [uP, trn, rot, if_pos, Prod.mk.injEq, cg0, far, md]
    rw [show x + - -x = 2 * x by omega, show y + -y = 0 by omega, cg_two0]
    exact ⟨fun h => h.1, fun h => ⟨h, Cg.refl _ _⟩⟩
  · simp only [uP, trn, rot, if_pos, Prod.mk.injEq, cg0, far, md]
    rw [show x + - -y = x + y by omega, show y + - -x = x + y by omega]
    exact ⟨fun h => h.1, fun h => ⟨h, h⟩⟩
theorem v_eq {n : Int} {k : Nat} (hk : k < 4) (x y x' y' : Int) : vP true n k x y = vP true n k x' y' ↔ Cg (md n k) (axi k x y) (axi k x' y') := by
  rcases four hk with rfl | rfl | rfl | rfl
  · simp only [vP, trn, rot, if_pos, Prod.mk.injEq, cg_iff, axi, md]
    rw [show x - -x = 2 * x by omega, show x' - -x' = 2 * x' by omega, show y - y = 0 by omega, show y' - y' = 0 by omega, cg_two]
    exact ⟨fun h => h.1, fun h => ⟨h, Cg.refl _ _⟩⟩
  · simp only [vP, trn, rot, if_pos, Prod.mk.injEq, cg_iff, axi, md]
    rw [show x - -y = x + y by omega, show x' - -y' = x' + y' by omega, show y - -x = x + y by omega, show y' - -x' = x' + y' by omega, show -x - y = -(x + y) by omega, show -x' - y' = -(x' + y') by omega, cg_neg]
    exact ⟨fun h => h.1, fun h => ⟨h, h⟩⟩
  · simp only [vP, trn, rot, if_pos, Prod.mk.injEq, cg_iff, axi, md]
    rw [show x - - -x = 0 by omega, show x' - - -x' = 0 by omega, show y - -y = 2 * y by omega, show y' - -y' = 2 * y' by omega, cg_two, cg_neg]
    exact ⟨fun h => h.2, fun h => ⟨Cg.refl _ _, h⟩⟩
  · simp only [vP, trn, rot, if_pos, Prod.mk.injEq, cg_iff, axi, md]
    rw [show x - - -y = x - y by omega, show x' - - -y' = x' - y' by omega, show y - - -x = -(x - y) by omega, show y' - - -x' = -(x' - y') by omega, cg_neg]
    exact ⟨fun h => h.1, fun h => ⟨h, h⟩⟩
section
variable {n : Int} {f : Int → Int → Int} {k : Nat}
theorem Sym.win (hp : Per n f) {x y e : Int} {g : Bool} (h : Sym f g k x y) : Sym f g k (x + n * e) y := by
  have := h.shift hp e 0
  simpa using this
theorem ex_win (hn : 0 < n) (hp : Per n f) {g : Bool} : (∃ x y : Int, ((0 ≤ x ∧ x < n) ∧ 0 ≤ y ∧ y < n) ∧ Sym f g k x y) ↔ Ex f g k := by
  constructor
  · rintro ⟨x, y, _, h⟩
    exact ⟨x, y, h⟩
  · rintro ⟨a, b, h⟩
    obtain ⟨x, y, e, i, j, h1, h2, h3, h4, _, _⟩ := window hn (k := 0) (by omega) a b
    exact ⟨x, y, h1, by rw [h3, h4]; exact h.shift hp i j⟩
theorem mirP_iff (hn : 0 < n) (hp : Per n f) (hk : k < 4) : MirP n f true k ↔ Mir f k := by
  constructor
  · rintro ⟨x, y, e, hw, h, hu⟩
    obtain ⟨i, j, h1, h2⟩ := reach hk ((u_zero hk _ _).1 hu) (Cg.refl _ _)
    exact ⟨_, _, (h.win hp).shift hp i j, h1⟩
  · rintro ⟨a, b, h, h0⟩
    obtain ⟨x, y, e, i, j, h1, h2, h3, h4, h5, h6⟩ := window hn hk a b
    refine ⟨x, y, e, ⟨h1, h2⟩, by rw [h3, h4]; exact h.shift hp i j, (u_zero hk _ _).2 ?_⟩
    rw [h0] at h5
    exact h5.symm
theorem cenP_iff (hn : 0 < n) (hp : Per n f) (hk : k < 4) : CenP n f true k ↔ Cen f k := by
  constructor
  · rintro ⟨x, y, e, hw, h, hno⟩
    refine ⟨x + n * e, y, h.win hp, fun a' b' h' ha hf => ?_⟩
    obtain ⟨x', y', e', i, j, h1, h2, h3, h4, h5, h6⟩ := window hn hk a' b'
    refine hno x' y' e' ⟨h1, h2⟩ (by rw [h3, h4]; exact h'.shift hp i j) ((v_eq hk _ _ _ _).2 ?_) ((u_zero hk _ _).2 ?_)
    · rw [ha] at h6
      exact h6.symm
    · rw [hf] at h5
      exact h5.symm
  · rintro ⟨a, b, h, hno⟩
    obtain ⟨x, y, e, i, j, h1, h2, h3, h4, h5, h6⟩ := window hn hk a b
    refine ⟨x, y, e, ⟨h1, h2⟩, by rw [h3, h4]; exact h.shift hp i j, fun x' y' e' hw h' hv hu => ?_⟩
    obtain ⟨i', j', h7, h8⟩ := reach hk ((u_zero hk _ _).1 hu) (((v_eq hk _ _ _ _).1 hv).trans h6.symm)
    exact hno _ _ ((h'.win hp).shift hp i' j') h8 h7
def Win2 (n a b : Int) : Prop := (-2 * n ≤ a ∧ a < 2 * n) ∧ -2 * n ≤ b ∧ b < 2 * n
end
end Go.Proofs.Ytddbmckbankmeaa
set_option linter.unusedVariables false
set_option linter.unusedSimpArgs false
namespace Go.Proofs.Ytddbmckbankmeaa
noncomputable def cnt (p : Nat → Prop) : Nat := (bP (p 0)).toNat + (bP (p 1)).toNat + (bP (p 2)).toNat + (bP (p 3)).toNat
def kindB (q h : Bool) (fl mi : Nat) (ce : Bool) : Nat :=
  if q = true ∧ fl = 0 then 0 else if q = true ∧ mi = 4 then 1 else if q = true then 2 else if h = true ∧ fl = 0 then 3
  else if h = true ∧ mi = 2 ∧ ce = true then 4 else if h = true then 5 + mi else if fl = 0 then 8 else if mi = 0 then 9 else if ce = true then 10 else 11
noncomputable def CenA (f : Int → Int → Int) : Prop := ∃ k, k < 4 ∧ Mir f k ∧ Cen f k
noncomputable def kindF (f : Int → Int → Int) : Nat := kindB (bP (Ex f false 1)) (bP (Ex f false 2)) (cnt (Ex f true)) (cnt (Mir f)) (bP (CenA f))
theorem trn_sur (g : Bool) {k : Nat} (hk : k < 4) (x y : Int) : ∃ p q, trn g p q k = (x, y) := by
  rcases four hk with rfl | rfl | rfl | rfl <;> cases g
  · exact ⟨x, y, rfl⟩
  · exact ⟨-x, y, by simp [trn, rot]⟩
  · exact ⟨y, -x, by simp [trn, rot]⟩
  · exact ⟨-y, -x, by simp [trn, rot]⟩
  · exact ⟨-x, -y, by simp [trn, rot]⟩
  · exact ⟨x, -y, by simp [trn, rot]⟩
  · exact ⟨-y, x, by simp [trn, rot]⟩
  · exact ⟨y, x, by simp [trn, rot]⟩
section
variable {f f' : Int → Int → Int}
theorem Mir.ex {k : Nat} (h : Mir f k) : Ex f true k := by
  obtain ⟨a, b, h, _⟩ := h
  exact ⟨a, b, h⟩
theorem adj {j : Nat} (hj : j < 4) (h1 : Ex f true j) (h2 : Ex f true ((j + 1) % 4)) : Ex f false 1 := by
  obtain ⟨c, d, h1⟩ := h1
  obtain ⟨a, b, h2⟩ := h2
  refine ⟨a + d, b - c, fun x y => ?_⟩
  obtain ⟨p, q, hpq⟩ := trn_sur true hj (x - c) (y - d)
  have e1 := h1 p q
  have e2 := h2 p q
  rw [hpq] at e1
  have e3 : trn true p q ((j + 1) % 4) = rot (trn true p q j) := by
    rcases four hj with rfl | rfl | rfl | rfl <;> simp [trn, rot]
  rw [e3, hpq] at e2
  have a1 : x - c + c = x := by omega
  have a2 : y - d + d = y := by omega
  simp only [a1, a2] at e1
  rw [e1, ← e2]
  show f (-y + (a + d)) (x + (b - c)) = f (-(y - d) + a) (x - c + b)
  congr 1 <;> omega
theorem inv3 (h : Ex f false 3) : Ex f false 1 := by
  obtain ⟨a, b, h⟩ := h
  refine ⟨b, -a, fun x y => ?_⟩
  have e := h (-y + b) (x - a)
  have e1 : (trn false (-y + b) (x - a) 3).1 + a = x := by
    show - -(x - a) + a = x
    omega
  have e2 : (trn false (-y + b) (x - a) 3).2 + b = y := by
    show -(-y + b) + b = y
    omega
  rw [e1, e2] at e
  rw [e]
  show f (-y + b) (x + -a) = f (-y + b) (x - a)
  congr 1
theorem inv1 (h : Ex f false 1) : Ex f false 3 := by
  obtain ⟨a, b, h⟩ := h
  refine ⟨-b, a, fun x y => ?_⟩
  have e := h (y - b) (-x + a)
  have e1 : (trn false (y - b) (-x + a) 1).1 + a = x := by
    show -(-x + a) + a = x
    omega
  have e2 : (trn false (y - b) (-x + a) 1).2 + b = y := by
    show y - b + b = y
    omega
  rw [e1, e2] at e
  rw [e]
  show f (- -y + -b) (-x + a) = f (y - b) (-x + a)
  congr 1
  omega
theorem mirrors_le (hq : bP (Ex f false 1) = false) : cnt (Mir f) ≤ 2 := by
  have hn := bP_false.1 hq
  have key : ∀ j, j < 4 → (bP (Mir f j)).toNat + (bP (Mir f ((j + 1) % 4))).toNat ≤ 1 := fun j hj => by
    by_cases h1 : Mir f j
    · by_cases h2 : Mir f ((j + 1) % 4)
      · exact absurd (adj hj h1.ex h2.ex) hn
      · rw [bP_false.2 h2]
        cases bP (Mir f j) <;> simp
    · rw [bP_false.2 h1]
      cases bP (Mir f ((j + 1) % 4)) <;> simp
  have k0 := key 0 (by omega)
  have k2 := key 2 (by omega)
  unfold cnt
  simp at k0 k2
  omega
def cj (g : Bool) (k : Nat) (g2 : Bool) (j : Nat) : Nat := if g2 = true then (if g = true then 2 * k + 4 - j else j + 2 * k) % 4 else if g = true then (4 - j) % 4 else j
theorem cj_trn (g : Bool) {k : Nat} (hk : k < 4) (g2 : Bool) {j : Nat} (hj : j < 4) (x y : Int) : trn g2 (trn g x y k).1 (trn g x y k).2 (cj g k g2 j) = trn g (trn g2 x y j).1 (trn g2 x y j).2 k := by
  rcases four hk with rfl | rfl | rfl | rfl <;> rcases four hj with rfl | rfl | rfl | rfl <;> cases g <;> cases g2 <;> simp [cj, trn, rot]
variable {g : Bool} {k : Nat} {dx dy : Int}
def HF (f f' : Int → Int → Int) (g : Bool) (k : Nat) (dx dy : Int) : Prop := ∀ x y, f' ((trn g x y k).1 + dx) ((trn g x y k).2 + dy) = f x y
def ca (g : Bool) (k : Nat) (dx dy : Int) (g2 : Bool) (j : Nat) (a b : Int) : Int := (trn g a b k).1 + dx - (trn g2 dx dy (cj g k g2 j)).1
def cb (g : Bool) (k : Nat) (dx dy : Int) (g2 : Bool) (j : Nat) (a b : Int) : Int := (trn g a b k).2 + dy - (trn g2 dx dy (cj g k g2 j)).2
theorem conj_eq (h : HF f f' g k dx dy) (hk : k < 4) (g2 : Bool) {j : Nat} (hj : j < 4) (a b x y : Int) :
    f' ((trn g2 ((trn g x y k).1 + dx) ((trn g x y k).2 + dy) (cj g k g2 j)).1 + ca g k dx dy g2 j a b) ((trn g2 ((trn g x y k).1 + dx) ((trn g x y k).2 + dy) (cj g k g2 j)).2 + cb g k dx dy g2 j a b) = f ((trn g2 x y j).1 + a) ((trn g2 x y j).2 + b) := by
  rw [← h ((trn g2 x y j).1 + a) ((trn g2 x y j).2 + b), trn_add, cj_trn g hk g2 hj, trn_add]
  unfold ca cb
  congr 1 <;> (simp only []; omega)
theorem conj_iff (h : HF f f' g k dx dy) (hk : k < 4) (g2 : Bool) {j : Nat} (hj : j < 4) (a b : Int) : Sym f' g2 (cj g k g2 j) (ca g k dx dy g2 j a b) (cb g k dx dy g2 j a b) ↔ Sym f g2 j a b := by
  constructor
  · intro hs x y
    rw [← conj_eq h hk g2 hj a b x y, hs, h]
  · intro hs x y
    obtain ⟨p, q, hpq⟩ := trn_sur g hk (x - dx) (y - dy)
    have e := conj_eq h hk g2 hj a b p q
    rw [hs, ← h p q, hpq] at e
    have a1 : x - dx + dx = x := by omega
    have a2 : y - dy + dy = y := by omega
    simp only [a1, a2] at e
    exact e
theorem conj_sur (g : Bool) {k : Nat} (hk : k < 4) (dx dy : Int) (g2 : Bool) (j : Nat) (a' b' : Int) : ∃ a b, ca g k dx dy g2 j a b = a' ∧ cb g k dx dy g2 j a b = b' := by
  unfold ca cb
  obtain ⟨p, q, hpq⟩ := trn_sur g hk (a' - dx + (trn g2 dx dy (cj g k g2 j)).1) (b' - dy + (trn g2 dx dy (cj g k g2 j)).2)
  refine ⟨p, q, ?_, ?_⟩ <;> rw [hpq] <;> (simp only []; omega)
theorem cj_lt (g : Bool) (k : Nat) (g2 : Bool) {j : Nat} (hj : j < 4) : cj g k g2 j < 4 := by
  unfold cj
  split
  · omega
  · split <;> omega
theorem ex_conj (h : HF f f' g k dx dy) (hk : k < 4) (g2 : Bool) {j : Nat} (hj : j < 4) : Ex f' g2 (cj g k g2 j) ↔ Ex f g2 j := by
  constructor
  · rintro ⟨a', b', hs⟩
    obtain ⟨a, b, rfl, rfl⟩ := conj_sur g hk dx dy g2 j a' b'
    exact ⟨a, b, (conj_iff h hk g2 hj a b).1 hs⟩
  · rintro ⟨a, b, hs⟩
    exact ⟨_, _, (conj_iff h hk g2 hj a b).2 hs⟩
theorem far_conj (g : Bool) {k : Nat} (hk : k < 4) (dx dy : Int) {j : Nat} (hj : j < 4) (a b : Int) : far (cj g k true j) (ca g k dx dy true j a b) (cb g k dx dy true j a b) = 0 ↔ far j a b = 0 := by
  rcases four hk with rfl | rfl | rfl | rfl <;> rcases four hj with rfl | rfl | rfl | rfl <;> cases g <;> simp [cj, ca, cb, trn, rot, far] <;> omega
theorem axi_conj (g : Bool) {k : Nat} (hk : k < 4) (dx dy : Int) {j : Nat} (hj : j < 4) (a b a' b' : Int) : axi (cj g k true j) (ca g k dx dy true j a' b') (cb g k dx dy true j a' b') = axi (cj g k true j) (ca g k dx dy true j a b) (cb g k dx dy true j a b) ↔ axi j a' b' = axi j a b := by
  rcases four hk with rfl | rfl | rfl | rfl <;> rcases four hj with rfl | rfl | rfl | rfl <;> cases g <;> simp [cj, ca, cb, trn, rot, axi] <;> omega
theorem mir_conj (h : HF f f' g k dx dy) (hk : k < 4) {j : Nat} (hj : j < 4) : Mir f' (cj g k true j) ↔ Mir f j := by
  constructor
  · rintro ⟨a', b', hs, h0⟩
    obtain ⟨a, b, rfl, rfl⟩ := conj_sur g hk dx dy true j a' b'
    exact ⟨a, b, (conj_iff h hk true hj a b).1 hs, (far_conj g hk dx dy hj a b).1 h0⟩
  · rintro ⟨a, b, hs, h0⟩
    exact ⟨_, _, (conj_iff h hk true hj a b).2 hs, (far_conj g hk dx dy hj a b).2 h0⟩
theorem cen_conj (h : HF f f' g k dx dy) (hk : k < 4) {j : Nat} (hj : j < 4) : Cen f' (cj g k true j) ↔ Cen f j := by
  constructor
  · rintro ⟨a', b', hs, h0⟩
    obtain ⟨a, b, rfl, rfl⟩ := conj_sur g hk dx dy true j a' b'
    exact ⟨a, b, (conj_iff h hk true hj a b).1 hs, fun a2 b2 h2 he h3 => h0 _ _ ((conj_iff h hk true hj a2 b2).2 h2) ((axi_conj g hk dx dy hj a b a2 b2).2 he) ((far_conj g hk dx dy hj a2 b2).2 h3)⟩
  · rintro ⟨a, b, hs, h0⟩
    refine ⟨_, _, (conj_iff h hk true hj a b).2 hs, fun a2' b2' h2 he h3 => ?_⟩
    obtain ⟨a2, b2, rfl, rfl⟩ := conj_sur g hk dx dy true j a2' b2'
    exact h0 a2 b2 ((conj_iff h hk true hj a2 b2).1 h2) ((axi_conj g hk dx dy hj a b a2 b2).1 he) ((far_conj g hk dx dy hj a2 b2).1 h3)
theorem cnt_conj (g : Bool) {k : Nat} (hk : k < 4) {p p' : Nat → Prop} (h : ∀ j, j < 4 → (p' (cj g k true j) ↔ p j)) : cnt p' = cnt p := by
  have h0 := bP_congr (h 0 (by omega))
  have h1 := bP_congr (h 1 (by omega))
  have h2 := bP_congr (h 2 (by omega))
  have h3 := bP_congr (h 3 (by omega))
  unfold cnt
  rcases four hk with rfl | rfl | rfl | rfl <;> cases g <;> simp [cj] at h0 h1 h2 h3 <;> rw [← h0, ← h1, ← h2, ← h3] <;> omega
theorem cj_sur (g : Bool) {k : Nat} (hk : k < 4) {j' : Nat} (hj : j' < 4) : ∃ j, j < 4 ∧ cj g k true j = j' := by
  rcases four hk with rfl | rfl | rfl | rfl <;> cases g <;> rcases four hj with rfl | rfl | rfl | rfl <;> first | exact ⟨0, by omega, rfl⟩ | exact ⟨1, by omega, rfl⟩ | exact ⟨2, by omega, rfl⟩ | exact ⟨3, by omega, rfl⟩
theorem kind_conj (h : HF f f' g k dx dy) (hk : k < 4) : kindF f' = kindF f := by
  have e1 : Ex f' false 1 ↔ Ex f false 1 := by
    have e := ex_conj h hk false (j := 1) (by omega)
    cases g
    · exact e
    · rw [← e]
      exact ⟨inv1, inv3⟩
  have e2 : Ex f' false 2 ↔ Ex f false 2 := by
    have e := ex_conj h hk false (j := 2) (by omega)
    cases g
    · exact e
    · exact e
  have e3 : CenA f' ↔ CenA f := by
    constructor
    · rintro ⟨j', hj', h1, h2⟩
      obtain ⟨j, hj, rfl⟩ := cj_sur g hk hj'
      exact ⟨j, hj, (mir_conj h hk hj).1 h1, (cen_conj h hk hj).1 h2⟩
    · rintro ⟨j, hj, h1, h2⟩
      exact ⟨_, cj_lt g k true hj, (mir_conj h hk hj).2 h1, (cen_conj h hk hj).2 h2⟩
  unfold kindF
  rw [bP_congr e1, bP_congr e2, bP_congr e3, cnt_conj g hk (fun j hj => ex_conj h hk true hj), cnt_conj g hk (fun j hj => mir_conj h hk hj)]
end
end Go.Proofs.Ytddbmckbankmeaa
set_option linter.unusedVariables false
set_option linter.unusedSimpArgs false
namespace Go.Proofs.Ytddbmckbankmeaa
open Go.RowKit
def rdS (W H : Int) (xs : List Int) : SP := ⟨fun v w => ∃ A k, v = .agg #[.int .i64 W, .int .i64 H, .slice A xs.length k] ∧ RI w A xs, fun v w w' ⟨A, k, h1, h2⟩ hb => ⟨A, k, h1, h2.to hb⟩⟩
section
variable {w : World} {v v1 v2 : Value} {W H W' H' x y t : Int} {f : Bool} {xs ys : List Int} {lo : Nat} {A : Option Addr} {k n : Nat}
theorem rd_fs (h : (isFS lo W H xs).p v w) : (rdS W H xs).p v w := let ⟨g, k, rest, h1, _, _, _, hb⟩ := h; ⟨_, _, h1, hb.ri⟩
theorem rd_st (h : (isSt lo W H xs).p v w) : (rdS W H xs).p v w := let ⟨A, k, h1, h2, _⟩ := h; ⟨A, k, h1, h2⟩
theorem rd_ex (h : v = .agg #[.int .i64 W, .int .i64 H, .slice A xs.length k]) (hr : RI w A xs) : (rdS W H xs).p v w := ⟨A, k, h, hr⟩
theorem same_rd (W H : Int) (xs : List Int) (W' H' : Int) (ys : List Int) (hl1 : xs.length ≤ 1000000) (hl2 : ys.length ≤ 1000000) (v1 v2 : Value) (w : World) (h1 : (rdS W H xs).p v1 w) (h2 : (rdS W' H' ys).p v2 w) :
    Calls Try.prog 20 #[v1, v2] w (Got w (isV (.bool (decide (W = W') && decide (H = H') && decide (xs = ys)))).p) := by
  obtain ⟨A, k, rfl, r1⟩ := h1
  obtain ⟨A', k', rfl, r2⟩ := h2
  exact stsame_got W H A k xs W' H' A' k' ys w r1 r2 hl1 hl2
theorem same_yes (W H : Int) (xs : List Int) (hl1 : xs.length ≤ 1000000) (v1 v2 : Value) (w : World) (h1 : (rdS W H xs).p v1 w) (h2 : (rdS W H xs).p v2 w) : Calls Try.prog 20 #[v1, v2] w (Got w (isV (.bool true)).p) := by
  have h := same_rd W H xs W H xs hl1 hl1 v1 v2 w h1 h2
  simp only [decide_true, Bool.and_self] at h
  exact h
theorem Apply_rd (W H x y t : Int) (f : Bool) (xs : List Int) (hv : validB W H xs = true) (hm : alB W H x y t = true) (v2 : Value) (w : World) (h2 : (rdS W H xs).p v2 w) :
    Calls Try.prog 13 #[.agg #[.int .i64 x, .int .i64 y, .int .i64 t, .bool f], v2] w (Got w (isP (isFS w.heap.size W H (apL W H x y t f xs)) (isV (.int .i64 0))).p) := by
  obtain ⟨A, k, rfl, r⟩ := h2
  obtain ⟨ad, rfl⟩ := valid_some r hv
  exact Apply_ad W H x y t f ad k xs w r hv hm
theorem Apply_rd_no (W H x y t : Int) (f : Bool) (xs : List Int) (hm : (validB W H xs && alB W H x y t) = false) (v2 : Value) (w : World) (h2 : (rdS W H xs).p v2 w) :
    Calls Try.prog 13 #[.agg #[.int .i64 x, .int .i64 y, .int .i64 t, .bool f], v2] w (Got w (isP (isV (.agg #[.int .i64 0, .int .i64 0, .slice none 0 0])) (isV (.int .i64 2))).p) := by
  obtain ⟨A, k, rfl, r⟩ := h2
  exact Apply_no W H x y t f A k xs w r hm
theorem rValid_rd (W H : Int) (xs : List Int) (v2 : Value) (w : World) (h2 : (rdS W H xs).p v2 w) : Calls Try.prog 17 #[v2] w (Got w (isV (.bool (validB W H xs))).p) := by
  obtain ⟨A, k, rfl, r⟩ := h2
  exact rValid_got W H A k xs w r
end
theorem valid_short {W H : Int} {xs : List Int} (h : validB W H xs = true) : xs.length ≤ 64 := by
  have h1 := size_mul (valid_size h)
  have h2 := valid_len h
  omega
theorem valid_take (W H : Int) (xs : List Int) : validB W H (xs.take 70) = validB W H xs := by
  by_cases h : xs.length ≤ 70
  · rw [List.take_of_length_le h]
  · have key : ∀ ys : List Int, 70 ≤ ys.length → validB W H ys = false := by
      intro ys hy
      cases hv : validB W H ys
      · rfl
      · have := valid_short hv; omega
    rw [key xs (by omega), key (xs.take 70) (by rw [List.length_take]; omega)]
theorem apL_aw : apL 2 1 1 0 0 false [0, 1] = [1, 0] := by decide
theorem valid_aw : validB 2 1 [0, 1] = true := by decide
theorem al_aw : alB 2 1 1 0 0 = true := by decide
set_option maxRecDepth 100000 in
set_option maxHeartbeats 1000000 in
theorem awake_got (w : World) :
    Calls Try.prog 18 #[] w (Got w (isV (.bool true)).p) := by
  go_enter Try.func18, Try.ntmps18
  go_upto_region 1 with fail
  have HE : Hd (Env w []) := ⟨trivial⟩
  have HB : Hd (Below w.heap.size w w) := ⟨Below.refl _ _⟩
  refine wp_region_vd 8 [4, 5, 6, 7, 3, 8, 9, 1] [0, 2, 4, 5, 6] [7] 27 [.int .i64 0, .int .i64 0, .slice none 0 0] [isV (.agg #[.int .i64 1, .int .i64 0, .int .i64 0, .bool false]), isF w.heap.size ([0, 1]), isFS w.heap.size 2 1 ([0, 1]), isP (isFS w.heap.size 2 1 (apL 2 1 1 0 0 false ([0, 1]))) (isV (.int .i64 0)), isP (isFS w.heap.size 2 1 (apL 2 1 1 0 0 false ([0, 1]))) (isV (.int .i64 0)), isFS w.heap.size 2 1 (apL 2 1 1 0 0 false ([0, 1])), isV (.int .i64 0), SP.any] (by rfl) alloc_T ?_ ?_
  · intro qi qh qA aa wx hb hs hd
    match qi, qh, qA with
    | 0, _, _ => exact .inl ⟨rfl, ⟨_, op_buM0 rfl rfl, rfl⟩⟩
    | 1, _, _ => exact .inl ⟨rfl, op_lit2 rfl rfl w.heap.size hb.size⟩
    | 2, _, _ => exact .inl ⟨rfl, op_buTF rfl rfl rfl (hd 1 rfl)⟩
    | 3, _, _ => exact .inl ⟨rfl, op_call2 rfl rfl Try.call13 (by rw [show aa.eval (.tmp 4) = .agg #[.int .i64 1, .int .i64 0, .int .i64 0, .bool false] from (hd 0 rfl)]; exact got_fsp hb.size (Apply_rd 2 1 1 0 0 false ([0, 1]) valid_aw al_aw _ _ (rd_fs (hd 2 rfl))))⟩
    | 4, _, _ => exact .inl ⟨rfl, op_mv rfl (hd 3 rfl)⟩
    | 5, _, _ => exact .inl ⟨rfl, op_fst rfl (hd 4 rfl)⟩
    | 6, _, _ => exact .inl ⟨rfl, op_snd rfl (hd 4 rfl)⟩
    | 7, _, h => cases h
    | qi + 8, h, _ => omega
  · intro vs X1 hb hv hal hne
    have HL0 := Hd.mk (HE.out.lt)
    have HBW := HB
    replace HB := Hd.mk (bel_then HB.out hb)
    replace HE : Hd (Env X1 []) := ⟨HE.out.to hb⟩
    have HLS := HL0
    have t8 : (isFS w.heap.size 2 1 (apL 2 1 1 0 0 false ([0, 1]))).p (vs 8) X1 := hv 5 (by decide) rfl
    obtain ⟨g8, k8, rest8, e8, l8, m8, n8, b8⟩ := t8
    replace HE : Hd (Env X1 [⟨g8, 3, ints (apL 2 1 1 0 0 false ([0, 1])) ++ rest8⟩]) := ⟨Env.addne (e := ⟨g8, 3, ints (apL 2 1 1 0 0 false ([0, 1])) ++ rest8⟩) HE.out b8 (fun e' he => Nat.ne_of_lt (Nat.lt_of_lt_of_le (HL0.out e' he) l8))⟩
    have G8 : Hd (w.heap.size ≤ g8) := ⟨Nat.le_trans HBW.out.size l8⟩
    have e9 : vs 9 = .int .i64 0 := hv 6 (by decide) rfl
    obtain ⟨g1, e1, l1, b1⟩ : ∃ g, vs 1 = .pointer (some ⟨g, 0, none⟩) ∧ _ := hal 7 rfl
    replace HE : Hd (Env X1 [⟨g8, 3, ints (apL 2 1 1 0 0 false ([0, 1])) ++ rest8⟩, ⟨g1, 27, [.int .i64 0, .int .i64 0, .slice none 0 0]⟩]) := ⟨Env.addne (e := ⟨g1, 27, [.int .i64 0, .int .i64 0, .slice none 0 0]⟩) HE.out b1 (fun e' he => (List.mem_append.1 (show e' ∈ _ ++ [_] from he)).elim (fun he => Nat.ne_of_lt (Nat.lt_of_lt_of_le (HL0.out e' he) l1)) (fun he => by rw [List.mem_singleton.1 he]; exact blk_ne b8 b1 (by decide)))⟩
    have G1 : Hd (w.heap.size ≤ g1) := ⟨Nat.le_trans HBW.out.size l1⟩
    simp only [putAll, List.foldl_cons, List.foldl_nil, Act.put, List.setIfInBounds_toArray, List.set_cons_succ, List.set_cons_zero, List.drop_succ_cons, List.drop_zero, e8, e9, e1]
    generalize vs 4 = s4
    generalize vs 5 = s5
    generalize vs 6 = s6
    generalize vs 7 = s7
    generalize vs 3 = s3
    clear hv hal hne hb HL0 HBW HLS e8 e9 e1 l8 b8 l1 b1
    refine wpList_st rfl rfl rfl rfl rfl (sto_T (HE.out.get 1 rfl)) ?_
    have HE' : Env (putL X1 g1 0 [.int .i64 2, .int .i64 1, .slice (some ⟨g8, 0, none⟩) ((apL 2 1 1 0 0 false ([0, 1])).length) k8]) [⟨g8, 3, ints (apL 2 1 1 0 0 false ([0, 1])) ++ rest8⟩, ⟨g1, 27, [.int .i64 2, .int .i64 1, .slice (some ⟨g8, 0, none⟩) ((apL 2 1 1 0 0 false ([0, 1])).length) k8]⟩] := HE.out.putF 1 rfl rfl
    have HB' := putL_below (show w.heap.size ≤ g1 from G1.out) [.int .i64 2, .int .i64 1, .slice (some ⟨g8, 0, none⟩) ((apL 2 1 1 0 0 false ([0, 1])).length) k8] _ 0 HB.out
    generalize putL X1 g1 0 [.int .i64 2, .int .i64 1, .slice (some ⟨g8, 0, none⟩) ((apL 2 1 1 0 0 false ([0, 1])).length) k8] = X2 at *
    replace HE := Hd.mk HE'
    replace HB := Hd.mk HB'
    clear HE' HB'
    go_upto_region 2 with fail
    refine wp_region_vd 9 [10, 11, 12, 13, 14, 15, 16, 17, 18] [0, 1, 2, 6, 8] [] 84 [.int .i64 0, .int .i64 0] [isV (.int .i64 0), isV (.bool true), isV (.bool true), isV (.agg #[.int .i64 2, .int .i64 1, .slice (some ⟨g8, 0, none⟩) ((apL 2 1 1 0 0 false ([0, 1])).length) k8]), isV (.agg #[.int .i64 2, .int .i64 1, .slice (some ⟨g8, 0, none⟩) ((apL 2 1 1 0 0 false ([0, 1])).length) k8]), isF X2.heap.size ([1, 0]), isFS X2.heap.size 2 1 ([1, 0]), isV (.bool true), isV (.bool true)] (by rfl) alloc_Z ?_ ?_
    · intro qi qh qA aa wx hb hs hd
      match qi, qh, qA with
      | 0, _, _ => exact .inl ⟨rfl, op_mv rfl (hs 2 rfl)⟩
      | 1, _, _ => exact .inl ⟨rfl, pure_b (bool_eq (by decide)) (⟨_, op_eqlE rfl (hd 0 rfl) rfl, rfl⟩)⟩
      | 2, _, _ => exact .inl ⟨rfl, op_mv rfl (hd 1 rfl)⟩
      | 3, _, _ => exact .inl ⟨⟨rfl, .inl (hd 2 rfl)⟩, op_ldT rfl rfl (hs 1 rfl) ((HE.out.to hb).get 1 rfl)⟩
      | 4, _, _ => exact .inl ⟨⟨rfl, .inl (hd 2 rfl)⟩, op_call1 rfl rfl Try.call21 (by rw [(show aa.eval (.tmp 13) = .agg #[.int .i64 2, .int .i64 1, .slice (some ⟨g8, 0, none⟩) ((apL 2 1 1 0 0 false ([0, 1])).length) k8] from (hd 3 rfl))]; exact own_got 2 1 (some ⟨g8, 0, none⟩) ((apL 2 1 1 0 0 false ([0, 1])).length) k8 _)⟩
      | 5, _, _ => exact .inl ⟨⟨rfl, .inl (hd 2 rfl)⟩, op_lit2 rfl rfl X2.heap.size hb.size⟩
      | 6, _, _ => exact .inl ⟨⟨rfl, .inl (hd 2 rfl)⟩, op_buUF rfl rfl rfl (hd 5 rfl)⟩
      | 7, _, _ => exact .inl ⟨⟨rfl, .inl (hd 2 rfl)⟩, op_call2 rfl rfl Try.call20 (same_yes 2 1 [1, 0] (by decide) _ _ _ (by have h := (rd_ex (xs := apL 2 1 1 0 0 false ([0, 1])) (hd 4 rfl) ((HE.out.to hb).get 0 rfl).ri); rw [apL_aw] at h; exact h) (rd_fs (hd 6 rfl)))⟩
      | 8, _, _ => exact .inl ⟨rfl, ⟨_, op_pickT rfl (hd 2 rfl) (hd 7 rfl), rfl⟩⟩
      | qi + 9, h, _ => omega
    · intro vs X3 hb hv hal hne
      have HL0 := Hd.mk (HE.out.lt)
      have HBW := HB
      replace HB := Hd.mk (bel_then HB.out hb)
      replace HE : Hd (Env X3 [⟨g8, 3, ints (apL 2 1 1 0 0 false ([0, 1])) ++ rest8⟩, ⟨g1, 27, [.int .i64 2, .int .i64 1, .slice (some ⟨g8, 0, none⟩) ((apL 2 1 1 0 0 false ([0, 1])).length) k8]⟩]) := ⟨HE.out.to hb⟩
      have HLS := HL0
      have e18 : vs 18 = .bool true := hv 8 (by decide) rfl
      simp only [putAll, List.foldl_cons, List.foldl_nil, Act.put, List.setIfInBounds_toArray, List.set_cons_succ, List.set_cons_zero, List.drop_succ_cons, List.drop_zero, e18]
      generalize vs 10 = s10
      generalize vs 11 = s11
      generalize vs 12 = s12
      generalize vs 13 = s13
      generalize vs 14 = s14
      generalize vs 15 = s15
      generalize vs 16 = s16
      generalize vs 17 = s17
      clear hv hal hne hb HL0 HBW HLS e18
      go_wp2_with fail
      go_ret
      exact ⟨_, rfl, HB.out, rfl⟩
end Go.Proofs.Ytddbmckbankmeaa
set_option linter.unusedVariables false
set_option linter.unusedSimpArgs false
namespace Go.Proofs.Ytddbmckbankmeaa
open Go.RowKit
section
variable {o : Oper} {a : Act} {x y : Operand} {ty : TypeId} {i j t : Int} {f : Bool}
end
section
variable {W H : Int} {m n : Mv} {xs : List Int}
theorem Al.size (h : Al W H m) : sizeB W H = true := by
  have h1 := h.w
  have h2 := h.h
  unfold sizeB
  simp only [Bool.and_eq_true, decide_eq_true_eq]
  exact ⟨h1, h2⟩
end
end Go.Proofs.Ytddbmckbankmeaa
set_option linter.unusedVariables false
set_option linter.unusedSimpArgs false
namespace Go.Proofs.Ytddbmckbankmeaa
open Go.RowKit
section
variable {o : Oper} {a : Act} {x y : Operand} {ty : TypeId} {w : World}
theorem sto_B {g off : Nat} {t : TypeId} {us : List Value} {v : Value} {b : Bool} (h : Blk w g t us) (hv : us[off]? = some v) : (Instr.storeAt 4 (.pointer (some ⟨g, off, none⟩)) (.bool b)).run Try.prog w = .ok () (putL w g off [.bool b]) := by
  have h0 := (h.cell off).trans hv
  have f0 := h.frozen off
  simp only [putL]
  simp [go_sem, h0, f0]
end
end Go.Proofs.Ytddbmckbankmeaa
set_option linter.unusedVariables false
set_option linter.unusedSimpArgs false
namespace Go.Proofs.Ytddbmckbankmeaa
open Go.RowKit
def mcells (ms : List Mv) : List Value := ms.flatMap fun m => [.int .i64 m.x, .int .i64 m.y, .int .i64 m.t, .bool m.f]
section
variable {w w' : World} {base size n g o : Nat} {e : TypeId} {v : Value} {xs vs : List Value}
theorem own_to (h : w.ownsRow base e size v n xs) (hb : Below w.heap.size w w') : w'.ownsRow base e size v n xs :=
  h.kept (row := none) ⟨hb.os, hb.tape, hb.output, hb.size, fun k hk _ => hb.block k hk⟩ (by cases v.ownBlock <;> simp)
theorem own_put (hlt : ∀ k, v.ownBlock = some k → k < g) (h : w.ownsRow base e size v n xs) : (putL w g o vs).ownsRow base e size v n xs := by
  refine ⟨h.1, ?_⟩
  rcases h.2 with hn | ⟨g', cap, cur, rfl, hb, hgg, rest⟩
  · exact .inl hn
  · refine .inr ⟨g', cap, cur, rfl, hb, ?_, rest⟩
    rw [(putL_below (Nat.le_refl g) vs w o (Below.refl g w)).block g' (hlt g' rfl)]
    exact hgg
end
def OwnM (lo : Nat) (w : World) (v : Value) (ms : List Mv) : Prop := w.ownsRow lo 26 4 v ms.length (mcells ms)
section
variable {lo g o : Nat} {w w' : World} {v : Value} {ms : List Mv} {vs : List Value}
theorem OwnM.to (h : OwnM lo w v ms) (hb : Below w.heap.size w w') : OwnM lo w' v ms := own_to h hb
theorem OwnM.put (h : OwnM lo w v ms) (hlt : ∀ k, v.ownBlock = some k → k < g) : OwnM lo (putL w g o vs) v ms := own_put hlt h
theorem OwnM.lt (h : OwnM lo w v ms) : ∀ k, v.ownBlock = some k → lo ≤ k ∧ k < w.heap.size := World.ownsRow.lt h
end
end Go.Proofs.Ytddbmckbankmeaa
set_option linter.unusedVariables false
set_option linter.unusedSimpArgs false
namespace Go.Proofs.Ytddbmckbankmeaa
open Go.RowKit
section
variable {W H : Int} {m n : Mv}
end
section
variable {lo lo' g k j : Nat} {w w' : World} {v : Value} {ms : List Mv} {m : Mv}
theorem OwnM.lower (h : lo ≤ lo') (ho : OwnM lo' w v ms) : OwnM lo w v ms := by
  refine ⟨ho.1, ?_⟩
  rcases ho.2 with hn | ⟨g', cap, cur, rfl, hb, hgg, rest⟩
  · exact .inl hn
  · exact .inr ⟨g', cap, cur, rfl, by omega, hgg, rest⟩
theorem Env.front : ∀ {L L' : List Ent}, Env w (L ++ L') → Env w L
  | [], _, _ => trivial
  | e :: L, L', ⟨h1, h2, h3⟩ => ⟨h1, fun e' he => h2 e' (List.mem_append_left _ he), Env.front h3⟩
end
section
variable {Q : Exit → Act → World → Prop} {o : Oper} {a : Act} {w : World} {d g off j n k lo : Nat} {x y : Operand} {ty : TypeId} {m m' : Mv} {ms : List Mv} {P : Program}
end
end Go.Proofs.Ytddbmckbankmeaa
set_option linter.unusedVariables false
set_option linter.unusedSimpArgs false
namespace Go.Proofs.Ytddbmckbankmeaa
open Go.RowKit
def RdM (w : World) (A : Option Addr) (ms : List Mv) : Prop := ∀ (j : Nat) (m : Mv), ms[j]? = some m → ∃ ad, A = some ad ∧ w.cell? (ad.add (j * 4)) = some (.int .i64 m.x) ∧ w.cell? ((ad.add (j * 4)).add 1) = some (.int .i64 m.y) ∧ w.cell? ((ad.add (j * 4)).add 2) = some (.int .i64 m.t) ∧ w.cell? ((ad.add (j * 4)).add 3) = some (.bool m.f)
section
variable {w w' : World} {A : Option Addr} {ad : Addr} {ms : List Mv} {m : Mv} {lo lo' g k j n : Nat} {v : Value} {vs : List Value} {o : Nat}
theorem RdM.to (h : RdM w A ms) (hb : Below w.heap.size w w') : RdM w' A ms := fun j m hj => by
  obtain ⟨ad, e, h0, h1, h2, h3⟩ := h j m hj
  have key : ∀ {p : Addr} {u : Value}, w.cell? p = some u → w'.cell? p = some u := fun {p u} hp => (hb.cell (World.block_lt_of_cell? w _ hp)).trans hp
  exact ⟨ad, e, key h0, key h1, key h2, key h3⟩
theorem RdM.at_ (h : RdM w (some ad) ms) (hj : ms[j]? = some m) : w.cell? (ad.add (j * 4)) = some (.int .i64 m.x) ∧ w.cell? ((ad.add (j * 4)).add 1) = some (.int .i64 m.y) ∧ w.cell? ((ad.add (j * 4)).add 2) = some (.int .i64 m.t) ∧ w.cell? ((ad.add (j * 4)).add 3) = some (.bool m.f) := by
  obtain ⟨ad', e, h⟩ := h j m hj
  cases e
  exact h
def OwnS (lo : Nat) (w : World) (v : Value) (ms : List Mv) : Prop := w.ownsRow lo 31 4 v ms.length (mcells ms)
theorem OwnS.to (h : OwnS lo w v ms) (hb : Below w.heap.size w w') : OwnS lo w' v ms := own_to h hb
theorem OwnS.put (h : OwnS lo w v ms) (hlt : ∀ k, v.ownBlock = some k → k < g) : OwnS lo (putL w g o vs) v ms := own_put hlt h
theorem OwnS.lt (h : OwnS lo w v ms) : ∀ k, v.ownBlock = some k → lo ≤ k ∧ k < w.heap.size := World.ownsRow.lt h
end
section
variable {Q : Exit → Act → World → Prop} {o : Oper} {a : Act} {w : World} {d j n k : Nat} {x y : Operand} {m : Mv} {ad : Addr} {A : Option Addr}
end
end Go.Proofs.Ytddbmckbankmeaa
set_option linter.unusedVariables false
set_option linter.unusedSimpArgs false
namespace Go.Proofs.Ytddbmckbankmeaa
open Go.RowKit Go.ChangeShapes Go.WideShapes Go.ChangeAt Go.WideMaps Go.Joins
open Go.Maps (Keyed)
theorem laidM : laidOutB Try.prog = true := by kernel_rfl
theorem rowM : (31 : TypeId) < Try.prog.types.size := of_decide_eq_true (by kernel_rfl)
theorem cellsSM : Try.prog.cellsOf 31 = 4 := by kernel_rfl
theorem cellsI1 : Try.prog.cellsOf 3 = 1 := by kernel_rfl
theorem cellsB1 : Try.prog.cellsOf 4 = 1 := by kernel_rfl
theorem deepM : Try.prog.keyTypeAt (Try.prog.types.size + 1) 31 = true := by kernel_rfl
theorem wideM : (match Try.prog.underlying 31 with | some (.array _ _) | some (.struct _) => true | _ => false) = true := by kernel_rfl
set_option maxRecDepth 100000 in
theorem lawM : KeyLaw Try.prog 31 := deep_law_laid laidM (m := 3) (by omega) rowM (by kernel_rfl) wideM
theorem keyedM : Keyed Try.prog 31 := Keyed.of_law lawM
def mvv (m : Mv) : Value := .agg #[.int .i64 m.x, .int .i64 m.y, .int .i64 m.t, .bool m.f]
def WfM (m : Mv) : Prop := (Lit.int .i64 m.x).wf = true ∧ (Lit.int .i64 m.y).wf = true ∧ (Lit.int .i64 m.t).wf = true
theorem wf_small {i : Int} (h : -1000 ≤ i ∧ i ≤ 1000) : (Lit.int .i64 i).wf = true := by
  simp [Lit.wf, IntKind.min, IntKind.max, IntKind.signed, IntKind.bits]
  omega
theorem Al.wf {W H : Int} {m : Mv} (h : Al W H m) : WfM m := by
  have h1 := h.w
  have h2 := h.h
  have h3 := h.x
  have h4 := h.y
  have h5 := h.t
  exact ⟨wf_small (by omega), wf_small (by omega), wf_small (by omega)⟩
set_option maxRecDepth 100000 in
theorem key_of (w : World) {m : Mv} (h : WfM m) : ∃ kl, keyOf Try.prog 31 (mvv m) = some kl := by
  have hf : (mvv m).formed Try.prog 31 = true := by simp [Value.formed, mvv, Try.underlying31, cellsSM]
  have ht : DataW.Trod (H := Unit) (fun _ => ()) Try.prog w 0 (fun _ => true) true 31 (mvv m) (.agg [.lit (.int .i64 m.x), .lit (.int .i64 m.y), .lit (.int .i64 m.t), .lit (.bool m.f)]) [] :=
    ⟨2, by
      have h0 := trod_int_mk (H := Unit) (enc := fun _ => ()) (P := Try.prog) (w := w) (base := 0) (spare := fun _ => true) (held := true) 0 Try.underlying3 h.1
      have h1 := trod_int_mk (H := Unit) (enc := fun _ => ()) (P := Try.prog) (w := w) (base := 0) (spare := fun _ => true) (held := true) 0 Try.underlying3 h.2.1
      have h2 := trod_int_mk (H := Unit) (enc := fun _ => ()) (P := Try.prog) (w := w) (base := 0) (spare := fun _ => true) (held := true) 0 Try.underlying3 h.2.2
      have h3 : DataW.trod (H := Unit) (fun _ => ()) Try.prog w 0 (fun _ => true) true 1 4 [.bool m.f] = some (.lit (.bool m.f), []) := by simp [DataW.trod, Try.underlying4]
      exact trod_struct4_mk (n := 1) (cs := [.int .i64 m.x, .int .i64 m.y, .int .i64 m.t, .bool m.f]) Try.underlying31 cellsSM.symm (by simpa [cellsI1] using h0) (by simpa [cellsI1] using h1) (by simpa [cellsI1] using h2) (by simpa [cellsB1] using h3)⟩
  exact ⟨_, (keyOf_asKey deepM wideM hf ht).1⟩
theorem mvv_inj {m n : Mv} (h : mvv m = mvv n) : m = n := by
  obtain ⟨x, y, t, f⟩ := m
  obtain ⟨x', y', t', f'⟩ := n
  simp [mvv] at h
  simp [h]
theorem plainElem_bool_inv {P : Program} {e : TypeId} (he : P.underlying e = some .bool) {v : Value} {z : DataW Unit × List MemPlace} (h : plainElem P e v = some z) : ∃ b, v = .bool b ∧ z = (.lit (.bool b), []) := by
  unfold plainElem at h
  rw [he] at h
  cases v <;> simp at h
  exact ⟨_, rfl, h.symm⟩
def mvEq (m n : Mv) : Bool := m.x == n.x && (m.y == n.y && (m.t == n.t && m.f == n.f))
theorem mvEq_iff {m n : Mv} : mvEq m n = true ↔ m = n := by
  obtain ⟨x, y, t, f⟩ := m
  obtain ⟨x', y', t', f'⟩ := n
  simp [mvEq]
def memB (m : Mv) (ms : List Mv) : Bool := ms.any (mvEq m)
theorem memB_iff {m : Mv} {ms : List Mv} : memB m ms = true ↔ m ∈ ms := by
  unfold memB
  rw [List.any_eq_true]
  exact ⟨fun ⟨n, h1, h2⟩ => by rw [mvEq_iff.1 h2]; exact h1, fun h => ⟨m, h, mvEq_iff.2 rfl⟩⟩
def MapM (w : World) (b : Nat) (ms : List Mv) : Prop := ∃ D : DataW Unit, w.ownsMap Try.prog 31 (plainElem Try.prog 4) b ms.length D ∧
  ∀ m kl, WfM m → keyOf Try.prog 31 (mvv m) = some kl → D.atKey kl (.lit (.bool false)) = .lit (.bool (memB m ms))
theorem zeroBool (w : World) : (zeroValue 4).run Try.prog w = .ok (.bool false) w := by kernel_rfl
section
variable {w w' : World} {b : Nat} {ms : List Mv} {m : Mv}
theorem MapM.to (h : MapM w b ms) (hb : Below w.heap.size w w') : MapM w' b ms := by
  obtain ⟨D, h1, h2⟩ := h
  exact ⟨D, h1.kept (row := none) ⟨hb.os, hb.tape, hb.output, hb.size, fun k hk _ => hb.block k hk⟩ (by simp), h2⟩
theorem MapM.put (h : MapM w b ms) {g o : Nat} {vs : List Value} (hlt : b < g) : MapM (putL w g o vs) b ms := by
  obtain ⟨D, ⟨es, clock, hb, F, hs, hD⟩, h2⟩ := h
  exact ⟨D, ⟨es, clock, ((putL_below (Nat.le_refl g) vs w o (Below.refl g w)).block b hlt).trans hb, F, hs, hD⟩, h2⟩
theorem MapM.lt (h : MapM w b ms) : b < w.heap.size := by
  obtain ⟨D, h1, _⟩ := h
  exact h1.lt
theorem MapM.look (h : MapM w b ms) (hw : WfM m) : (Instr.lookup 118 (.map (some b)) (mvv m) false).run Try.prog w = .ok (.bool (memB m ms)) w := by
  obtain ⟨D, h1, h2⟩ := h
  obtain ⟨kl, hk⟩ := key_of w hw
  obtain ⟨v, ps, hrun, hv⟩ := h1.lookup keyedM Try.underlying118 (zeroBool w) (plainElem_bool Try.underlying4 false) hk
  obtain ⟨c, rfl, hc⟩ := plainElem_bool_inv Try.underlying4 hv
  rw [h2 m kl hw hk] at hc
  simp only [Prod.mk.injEq, DataW.lit.injEq, Lit.bool.injEq] at hc
  rw [hrun, hc.1]
theorem MapM.store (h : MapM w b ms) (hw : WfM m) (hn : ms.length < maxLen) : ∃ w', (Instr.mapUpdate 118 (.map (some b)) (mvv m) (.bool true)).run Try.prog w = .ok () w' ∧ MapM w' b (ms ++ [m]) ∧ w.grownBy w' (some b) := by
  obtain ⟨D, h1, h2⟩ := h
  obtain ⟨kl, hk⟩ := key_of w hw
  obtain ⟨w', r1, r2, r3⟩ := h1.update keyedM Try.underlying118 hn hk (plainElem_bool Try.underlying4 true)
  refine ⟨w', r1, ⟨D.put kl (.lit (.bool true)), by rw [List.length_append]; exact r2, fun n nl hnw hnk => ?_⟩, r3⟩
  by_cases e : nl = kl
  · subst e
    have := mvv_inj (keyedM.inj hnk hk)
    subst this
    rw [Maps.atKey_put_same h1.isMap (keyedM.key hk)]
    rw [show memB n (ms ++ [n]) = true from memB_iff.2 (by simp)]
  · rw [Maps.atKey_put_other e, h2 n nl hnw hnk]
    have hne : n ≠ m := fun e2 => by
      subst e2
      rw [hnk] at hk
      exact e (Option.some.inj hk)
    have : memB n (ms ++ [m]) = memB n ms := by
      unfold memB
      rw [List.any_append]
      have : mvEq n m = false := by
        cases hq : mvEq n m
        · rfl
        · exact absurd (mvEq_iff.1 hq) hne
      simp [this]
    rw [this]
end
section
variable {Q : Exit → Act → World → Prop} {o : Oper} {a : Act} {w : World} {d b : Nat} {x y : Operand} {m : Mv} {ms : List Mv}
end
end Go.Proofs.Ytddbmckbankmeaa
set_option linter.unusedVariables false
set_option linter.unusedSimpArgs false
namespace Go.Proofs.Ytddbmckbankmeaa
open Go.RowKit
theorem Al.okm {W H : Int} {m : Mv} (h : Al W H m) : Okm W H m.x m.y m.t := ⟨h.w, h.h, h.x, h.y, h.t⟩
section
variable {Q : Exit → Act → World → Prop} {o : Oper} {a : Act} {w w' : World} {d b : Nat} {x y z : Operand} {m : Mv} {ms : List Mv} {ops : Array Oper} {rest : List Oper} {L : List Ent}
theorem Env.grown : ∀ {L : List Ent}, Env w L → w.grownBy w' (some b) → (∀ e ∈ L, e.g ≠ b) → Env w' L
  | [], _, _, _ => trivial
  | e :: L, ⟨h1, h2, h3⟩, hg, hne => ⟨(hg.block e.g h1.lt (fun e2 => hne e (List.mem_cons_self ..) (Option.some.inj e2))).trans h1, h2, Env.grown h3 hg (fun e' he => hne e' (List.mem_cons_of_mem _ he))⟩
end
end Go.Proofs.Ytddbmckbankmeaa
set_option linter.unusedVariables false
set_option linter.unusedSimpArgs false
namespace Go.Proofs.Ytddbmckbankmeaa
open Go.RowKit
theorem mul_b {a b A B : Int} (ha : 0 ≤ a ∧ a ≤ A) (hb : 0 ≤ b ∧ b ≤ B) : 0 ≤ a * b ∧ a * b ≤ A * B :=
  ⟨Int.mul_nonneg ha.1 hb.1, Int.mul_le_mul ha.2 hb.2 hb.1 (by omega)⟩
theorem num_digits {W H a b x y : Int} (hx : 0 ≤ x ∧ x < H) (hy : 0 ≤ y ∧ y < H) (h : a * H + x = b * H + y) : a = b ∧ x = y := by
  have e1 : (a * H + x) / H = a := by rw [Int.add_comm, Int.add_mul_ediv_right _ _ (by omega), Int.ediv_eq_zero_of_lt hx.1 hx.2, Int.zero_add]
  have e2 : (b * H + y) / H = b := by rw [Int.add_comm, Int.add_mul_ediv_right _ _ (by omega), Int.ediv_eq_zero_of_lt hy.1 hy.2, Int.zero_add]
  have : a = b := by rw [← e1, h, e2]
  subst this
  exact ⟨rfl, by omega⟩
section
variable {W H : Int} {m n : Mv}
end
def bools (bs : List Bool) : List Value := bs.map .bool
section
variable {w w' : World} {g n k j : Nat} {bs : List Bool} {b : Bool} {lo : Nat}
theorem bools_at {j : Nat} (h : j < bs.length) : (bools bs)[j]? = some (.bool (bs.getD j false)) := by
  unfold bools
  rw [List.getElem?_map, List.getElem?_eq_getElem h, List.getD_eq_getElem?_getD, List.getElem?_eq_getElem h]
  rfl
def BB (w : World) (g : Nat) (bs : List Bool) : Prop := ∃ rest, Blk w g 4 (bools bs ++ rest)
theorem BB.to (h : BB w g bs) (hb : Below w.heap.size w w') : BB w' g bs := let ⟨r, h⟩ := h; ⟨r, h.to hb⟩
theorem BB.lt (h : BB w g bs) : g < w.heap.size := let ⟨r, h⟩ := h; Blk.lt h
theorem BB.cell (h : BB w g bs) (hj : j < bs.length) : w.cell? ⟨g, j, none⟩ = some (.bool (bs.getD j false)) := by
  obtain ⟨r, h⟩ := h
  rw [h.cell j, List.getElem?_append_left (by unfold bools; rw [List.length_map]; exact hj), bools_at hj]
theorem BB.put {g' o : Nat} {vs : List Value} (h : BB w g bs) (hlt : g < g') : BB (putL w g' o vs) g bs := let ⟨r, h⟩ := h; ⟨r, putL_far vs w o h (Nat.ne_of_lt hlt)⟩
theorem BB.set (h : BB w g bs) (hj : j < bs.length) : BB (putL w g j [.bool b]) g (bs.set j b) := by
  obtain ⟨r, h⟩ := h
  refine ⟨r, ?_⟩
  have := putL_one (o := j) (v := .bool b) h
  rwa [List.set_append_left _ _ (by unfold bools; rw [List.length_map]; exact hj), show (bools bs).set j (.bool b) = bools (bs.set j b) from by unfold bools; rw [List.map_set]] at this
end
section
variable {Q : Exit → Act → World → Prop} {o : Oper} {a : Act} {w : World} {d g n k : Nat} {i : Int} {x y : Operand} {bs : List Bool}
end
section
variable {Q : Exit → Act → World → Prop} {o : Oper} {a : Act} {w : World} {d g n k j : Nat} {x y : Operand} {bs : List Bool} {b : Bool}
end
end Go.Proofs.Ytddbmckbankmeaa
