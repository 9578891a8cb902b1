/- Part 10 of the texts behind this claim. -/
import Derived.Maps.RangeWalk
import Derived.Deep.AppendLies
import Derived.Test.YtddbmckbankmeaaGreatKc1
import Derived.Test.YtddbmckbankmeaaGreatKc5
import Derived.Test.YtddbmckbankmeaaGreatKc6
import Derived.Test.YtddbmckbankmeaaGreatKc8
import Derived.Test.YtddbmckbankmeaaGreatKc9
set_option linter.unusedVariables false
set_option linter.unusedSimpArgs false
namespace Go.Proofs.YtddbmckbankmeaaGreat
def Per (n : Int) (f : Int → Int → Int) : Prop := ∀ x y i j : Int, f (x + n * i) (y + n * j) = f x y
def Sym (f : Int → Int → Int) (g : Bool) (k : Nat) (a b : Int) : Prop := ∀ x y : Int, f ((trn g x y k).1 + a) ((trn g x y k).2 + b) = f x y
def SymN (n : Int) (f : Int → Int → Int) (g : Bool) (k : Nat) (a b : Int) : Prop := ∀ x y : Int, 0 ≤ x → x < n → 0 ≤ y → y < n → f ((trn g x y k).1 + a) ((trn g x y k).2 + b) = f x y
def Ex (f : Int → Int → Int) (g : Bool) (k : Nat) : Prop := ∃ a b, Sym f g k a b
noncomputable def bP (p : Prop) : Bool := @decide p (Classical.propDecidable p)
theorem bP_true {p : Prop} : bP p = true ↔ p := by
 unfold bP; exact @decide_eq_true_iff p (Classical.propDecidable p)
theorem bP_false {p : Prop} : bP p = false ↔ ¬p := by
 unfold bP; exact @decide_eq_false_iff_not p (Classical.propDecidable p)
theorem bP_not {p : Prop} : (!bP p) = bP (¬p) := by
 by_cases h : p
 ·rw [bP_true.2 h, bP_false.2 (fun k => k h)]; rfl
 rw [bP_false.2 h, bP_true.2 h]; rfl
theorem bP_of {b : Bool} {p : Prop} (h : b = true ↔ p) : b = bP p := by
 by_cases hp : p
 ·rw [bP_true.2 hp, h.2 hp]
 rw [bP_false.2 hp]; cases b
 ·rfl
 exact absurd (h.1 rfl) hp
section
variable {n : Int} {f : Int → Int → Int} {g : Bool} {k : Nat} {a b : Int}
theorem Sym.shift (hp : Per n f) (h : Sym f g k a b) (i j : Int) : Sym f g k (a + n * i) (b + n * j) := fun x y => by
 rw [← Int.add_assoc, ← Int.add_assoc, hp]; exact h x y
end
def far : Nat → Int → Int → Int
 | 0, _, b => b
 | 1, a, b => a - b
 | 2, a, _ => a
 | _, a, b => a + b
def axi : Nat → Int → Int → Int
 | 0, a, _ => a
 | 1, a, b => -a - b
 | 2, _, b => -b
 | _, a, b => a - b
def md (n : Int) : Nat → Int
 | 0 => n
 | 1 => 2 * n
 | 2 => n
 | _ => 2 * n
def Mir (f : Int → Int → Int) (k : Nat) : Prop := ∃ a b, Sym f true k a b ∧ far k a b = 0
def Cg (m x y : Int) : Prop := ∃ p : Int, y = x + m * p
theorem cg_iff {m x y : Int} : x % m = y % m ↔ Cg m x y := by
 constructor
 ·intro h; have h1 := Int.emod_add_mul_ediv x m; have h2 := Int.emod_add_mul_ediv y m; refine ⟨y / m - x / m, ?_⟩; rw [Int.mul_sub]; omega
 rintro ⟨p, rfl⟩; exact (Int.add_mul_emod_self_left x m p).symm
theorem Cg.symm {m x y : Int} (h : Cg m x y) : Cg m y x := cg_iff.1 (cg_iff.2 h).symm
theorem Cg.trans {m x y z : Int} (h : Cg m x y) (h' : Cg m y z) : Cg m x z := cg_iff.1 ((cg_iff.2 h).trans (cg_iff.2 h'))
theorem Cg.refl (m x : Int) : Cg m x x := ⟨0, by simp⟩
section
variable {n : Int} {f : Int → Int → Int} {k : Nat} {a b : Int}
theorem four (hk : k < 4) : k = 0 ∨ k = 1 ∨ k = 2 ∨ k = 3 := by omega
theorem window (hn : 0 < n) (hk : k < 4) (a b : Int) : ∃ x y e i j : Int, ((0 ≤ x ∧ x < n) ∧ 0 ≤ y ∧ y < n) ∧ (e = 0 ∨ e = 1) ∧ x = a + n * i ∧ y = b + n * j ∧ Cg (md n k) (far k a b) (far k (x + n * e) y) ∧ Cg (md n k) (axi k a b) (axi k (x + n * e) y) := by
 have h1 := Int.emod_add_mul_ediv a n; have h2 := Int.emod_add_mul_ediv b n; have h3 := Int.emod_nonneg a (show n ≠ 0 by omega); have h4 := Int.emod_lt_of_pos a hn; have h5 := Int.emod_nonneg b (show n ≠ 0 by omega); have h6 := Int.emod_lt_of_pos b hn
 have key : ∀ e : Int, (e = 0 ∨ e = 1) → (∃ p q, far k (a + n * (-(a / n) + e)) (b + n * -(b / n)) = far k a b + md n k * p ∧ axi k (a + n * (-(a / n) + e)) (b + n * -(b / n)) = axi k a b + md n k * q) →
   ∃ x y e i j : Int, ((0 ≤ x ∧ x < n) ∧ 0 ≤ y ∧ y < n) ∧ (e = 0 ∨ e = 1) ∧ x = a + n * i ∧ y = b + n * j ∧ Cg (md n k) (far k a b) (far k (x + n * e) y) ∧ Cg (md n k) (axi k a b) (axi k (x + n * e) y) := by
  rintro e he ⟨p, q, hp, hq⟩; refine ⟨a % n, b % n, e, -(a / n), -(b / n), ⟨⟨h3, h4⟩, h5, h6⟩, he, by rw [Int.mul_neg]; omega, by rw [Int.mul_neg]; omega, ⟨p, ?_⟩, ⟨q, ?_⟩⟩
  ·rw [← hp]; congr 1
   ·rw [Int.mul_add, Int.mul_neg]; omega
   rw [Int.mul_neg]; omega
  rw [← hq]; congr 1
  ·rw [Int.mul_add, Int.mul_neg]; omega
  rw [Int.mul_neg]; omega
 generalize a / n = i at key; generalize b / n = j at key; rcases four hk with rfl | rfl | rfl | rfl
 ·exact key 0 (Or.inl rfl) ⟨-j, -i, by simp [far, md], by simp [axi, md]⟩
 ·obtain ⟨q, hq⟩ : ∃ q, i = j + (i - j) % 2 + 2 * q := ⟨(i - j) / 2, by omega⟩; generalize hE : (i - j) % 2 = e at hq; refine key e (by omega) ⟨-q, q + j, ?_, ?_⟩ <;> subst hq <;> simp only [far, axi, md, Int.mul_sub, Int.mul_add, Int.mul_neg, Int.mul_assoc, Int.mul_left_comm n 2] <;> omega
 ·exact key 0 (Or.inl rfl) ⟨-i, j, by simp [far, md], by simp [axi, md, Int.mul_neg]; omega⟩
 obtain ⟨q, hq⟩ : ∃ q, i = j + (i - j) % 2 + 2 * q := ⟨(i - j) / 2, by omega⟩; generalize hE : (i - j) % 2 = e at hq; refine key e (by omega) ⟨-q - j, -q, ?_, ?_⟩ <;> subst hq <;> simp only [far, axi, md, Int.mul_sub, Int.mul_add, Int.mul_neg, Int.mul_assoc, Int.mul_left_comm n 2] <;> omega
end
def uP (g : Bool) (n : Int) (k : Nat) (x y : Int) : Int × Int := ((x + (trn g x y k).1) % (2 * n), (y + (trn g x y k).2) % (2 * n))
def vP (g : Bool) (n : Int) (k : Nat) (x y : Int) : Int × Int := ((x - (trn g x y k).1) % (2 * n), (y - (trn g x y k).2) % (2 * n))
def Win (n : Int) (x y e : Int) : Prop := ((0 ≤ x ∧ x < n) ∧ 0 ≤ y ∧ y < n) ∧ (e = 0 ∨ e = 1)
section
variable {n : Int} {f : Int → Int → Int} {k : Nat}
theorem ex_win (hn : 0 < n) (hp : Per n f) {g : Bool} : (∃ x y : Int, ((0 ≤ x ∧ x < n) ∧ 0 ≤ y ∧ y < n) ∧ Sym f g k x y) ↔ Ex f g k := by
 constructor
 ·rintro ⟨x, y, _, h⟩; exact ⟨x, y, h⟩
 rintro ⟨a, b, h⟩; obtain ⟨x, y, e, i, j, h1, h2, h3, h4, _, _⟩ := window hn (k := 0) (by omega) a b; exact ⟨x, y, h1, by rw [h3, h4]; exact h.shift hp i j⟩
def Win2 (n a b : Int) : Prop := (-2 * n ≤ a ∧ a < 2 * n) ∧ -2 * n ≤ b ∧ b < 2 * n
end
noncomputable def cnt (p : Nat → Prop) : Nat := (bP (p 0)).toNat + (bP (p 1)).toNat + (bP (p 2)).toNat + (bP (p 3)).toNat
section
variable {f f' : Int → Int → Int}
theorem Mir.ex {k : Nat} (h : Mir f k) : Ex f true k := by
 obtain ⟨a, b, h, _⟩ := h; exact ⟨a, b, h⟩
def cj (g : Bool) (k : Nat) (g2 : Bool) (j : Nat) : Nat := if g2 = true then (if g = true then 2 * k + 4 - j else j + 2 * k) % 4 else if g = true then (4 - j) % 4 else j
variable {g : Bool} {k : Nat} {dx dy : Int}
def HF (f f' : Int → Int → Int) (g : Bool) (k : Nat) (dx dy : Int) : Prop := ∀ x y, f' ((trn g x y k).1 + dx) ((trn g x y k).2 + dy) = f x y
def ca (g : Bool) (k : Nat) (dx dy : Int) (g2 : Bool) (j : Nat) (a b : Int) : Int := (trn g a b k).1 + dx - (trn g2 dx dy (cj g k g2 j)).1
def cb (g : Bool) (k : Nat) (dx dy : Int) (g2 : Bool) (j : Nat) (a b : Int) : Int := (trn g a b k).2 + dy - (trn g2 dx dy (cj g k g2 j)).2
end
end Go.Proofs.YtddbmckbankmeaaGreat
set_option linter.unusedVariables false
set_option linter.unusedSimpArgs false
namespace Go.Proofs.YtddbmckbankmeaaGreat
open Go.RowKit
theorem run_storeF {P : Program} {a : Addr} {m : Mode} {w : World} (fn : Fn) (first captured : Array Value) : (store a (.func fn first captured) m).run P w = stored P w a (.func fn first captured) m := run_store P w a _ m rfl
attribute [local go_sem] run_storeF
section
variable {Q : Exit → Act → World → Prop} {o : Oper} {a : Act} {w : World} {d : Nat} {g off : Nat} {x y z zz : Operand} {ty : TypeId} {b b1 b2 b3 b4 : Int} {c c0 c1 c2 : Bool} {A : Option Addr} {n k : Nat} {m i j : Int} {fv u : Value} {fn : Fn} {fx fy : Array Value}
theorem op_mkF1 {f : FuncId} {v : Value} (ho : o.op = .makeFunc (.func f) #[] #[x]) (h0 : a.eval x = v) (w : World) : (execOp a.eval o).run Tryz.prog w = .ok (.value (.func (.func f) #[] #[v])) w := by
 generalize a.eval = ev at h0 ⊢; unfold execOp; simp only [ho]; simp [go_sem, h0]
end
def perG (W H : Int) : Nat → Int → Int
 | 0, n => n
 | k + 1, n => if n % H = 0 then n else perG W H k (n + W)
def perN (W H : Int) : Int := perG W H 8 W
theorem perG_step {W H : Int} (k : Nat) {n : Int} (h : n % H ≠ 0) : perG W H (k + 1) n = perG W H k (n + W) := by
 show (if n % H = 0 then n else _) = _; rw [if_neg h]
theorem per_ends {W H : Int} (hW : 1 ≤ W ∧ W ≤ 6) (hH : 1 ≤ H ∧ H ≤ 6) {q : Nat} (hq : q ≤ 5) (hno : ∀ j : Nat, j < q → (W + W * j) % H ≠ 0) (h2 : (W + W * q) % H ≠ 0) : q < 5 := by
 obtain ⟨a, rfl⟩ : ∃ a : Nat, W = a := ⟨W.toNat, by omega⟩; obtain ⟨b, rfl⟩ : ∃ b : Nat, H = b := ⟨H.toNat, by omega⟩; have h : ∀ a : Fin 7, ∀ b : Fin 7, 1 ≤ (b : Nat) → ∃ j : Fin 6, (((a : Nat) : Int) + ((a : Nat) : Int) * ((j : Nat) : Int)) % ((b : Nat) : Int) = 0 := by decide
 obtain ⟨j, hj⟩ := h ⟨a, by omega⟩ ⟨b, by omega⟩ (by show 1 ≤ b; omega); have hj2 := j.2; by_cases h3 : (j : Nat) < q
 ·exact absurd hj (hno _ h3)
 by_cases h4 : (j : Nat) = q
 ·rw [h4] at hj; exact absurd hj h2
 omega
end Go.Proofs.YtddbmckbankmeaaGreat
set_option linter.unusedVariables false
set_option linter.unusedSimpArgs false
namespace Go.Proofs.YtddbmckbankmeaaGreat
open Go.RowKit
def PerAt (W H : Int) (q : Nat) (m : Int) : Prop := q ≤ 5 ∧ m = W + W * q ∧ (∀ j : Nat, j < q → (W + W * j) % H ≠ 0) ∧ perN W H = perG W H (8 - q) m
section
variable {W H m : Int} {q : Nat}
theorem PerAt.start : PerAt W H 0 W := ⟨by omega, by simp, fun j hj => by omega, rfl⟩
theorem PerAt.step (h : PerAt W H q m) (hW : 1 ≤ W ∧ W ≤ 6) (hH : 1 ≤ H ∧ H ≤ 6) (hne : m % H ≠ 0) : PerAt W H (q + 1) (m + W) := by
 obtain ⟨h1, h2, h3, h4⟩ := h; have hq := per_ends hW hH h1 h3 (by rw [← h2]; exact hne); refine ⟨by omega, ?_, fun j hj => ?_, ?_⟩
 ·rw [h2, Int.natCast_add, Int.mul_add]; simp; omega
 ·by_cases e : j = q
  ·rw [e, ← h2]; exact hne
  exact h3 j (by omega)
 rw [h4, show 8 - q = (8 - (q + 1)) + 1 by omega, perG_step _ hne]
end
def SymR (f : Int → Int → Int) (g : Bool) (k : Nat) (a b n : Int) (x y : Nat) : Prop := ∀ p q : Int, 0 ≤ p → 0 ≤ q → q < n → (p < x ∨ (p = x ∧ q < y)) → f ((trn g p q k).1 + a) ((trn g p q k).2 + b) = f p q
section
variable {f : Int → Int → Int} {g : Bool} {k : Nat} {a b n : Int} {x y : Nat}
theorem SymR.start : SymR f g k a b n 0 0 := fun p q h1 h2 h3 h4 => by omega
theorem SymR.cell (h : SymR f g k a b n x y) (he : f ((trn g x y k).1 + a) ((trn g x y k).2 + b) = f x y) : SymR f g k a b n x (y + 1) := fun p q h1 h2 h3 h4 => by
 by_cases e : p = x ∧ q = y
 ·rw [e.1, e.2]; exact he
 exact h p q h1 h2 h3 (by omega)
theorem SymR.row (h : SymR f g k a b n x y) (he : n ≤ y) : SymR f g k a b n (x + 1) 0 := fun p q h1 h2 h3 h4 => h p q h1 h2 h3 (by omega)
theorem SymR.all (h : SymR f g k a b n x 0) (he : n ≤ x) : SymN n f g k a b := fun p q h1 h2 h3 h4 => h p q h1 h3 h4 (by omega)
end
def NoR (f : Int → Int → Int) (g : Bool) (k : Nat) (n : Int) (x y : Nat) : Prop := ∀ p q : Int, 0 ≤ p → 0 ≤ q → q < n → (p < x ∨ (p = x ∧ q < y)) → ¬ Sym f g k p q
section
variable {f : Int → Int → Int} {g : Bool} {k : Nat} {n : Int} {x y : Nat}
theorem NoR.start : NoR f g k n 0 0 := fun p q h1 h2 h3 h4 => by omega
theorem NoR.cell (h : NoR f g k n x y) (he : ¬ Sym f g k x y) : NoR f g k n x (y + 1) := fun p q h1 h2 h3 h4 => by
 by_cases e : p = x ∧ q = y
 ·rw [e.1, e.2]; exact he
 exact h p q h1 h2 h3 (by omega)
theorem NoR.row (h : NoR f g k n x y) (he : n ≤ y) : NoR f g k n (x + 1) 0 := fun p q h1 h2 h3 h4 => h p q h1 h2 h3 (by omega)
theorem NoR.all (h : NoR f g k n x 0) (he : n ≤ x) (hn : 0 < n) (hp : Per n f) : ¬ Ex f g k := fun hs => by
 obtain ⟨p, q, hw, hs⟩ := (ex_win hn hp).2 hs; exact h p q hw.1.1 hw.2.1 hw.2.2 (by omega) hs
end
theorem Env.putBs {w : World} {L : List Ent} {g j : Nat} {bs : List Bool} {rest : List Value} {b : Bool} (k : Env w L) (i : Nat) (hi : L[i]? = some ⟨g, 4, bools bs ++ rest⟩) (hj : j < bs.length) : Env (putL w g j [.bool b]) (L.set i ⟨g, 4, bools (bs.set j b) ++ rest⟩) := by
 have h := k.putO (o := j) (v := .bool b) i hi; rwa [List.set_append_left _ _ (by unfold bools; rw [List.length_map]; exact hj), show (bools bs).set j (.bool b) = bools (bs.set j b) from by unfold bools; rw [List.map_set]] at h
theorem getD_set {bs : List Bool} {i j : Nat} {b : Bool} (hi : i < bs.length) : (bs.set i b).getD j false = if i = j then b else bs.getD j false := by
 rw [List.getD_eq_getElem?_getD, List.getD_eq_getElem?_getD, List.getElem?_set]; split
 ·next h =>
  subst h; simp [hi]
 rfl
theorem idx_ok {n x y : Int} (hx : 0 ≤ x ∧ x < n) (hy : 0 ≤ y ∧ y < n) : (0 ≤ x * n ∧ x * n ≤ n * n) ∧ 0 ≤ x * n + y ∧ x * n + y < n * n := by
 have h1 := Int.mul_nonneg hx.1 (show 0 ≤ n by omega); have h2 := Int.mul_le_mul_of_nonneg_right (show x ≤ n - 1 by omega) (show 0 ≤ n by omega); rw [Int.sub_mul, Int.one_mul] at h2; omega
def SymL (f : Int → Int → Int) (g : Bool) (k : Nat) (n : Int) (bs : List Bool) (x y : Nat) : Prop :=
 (bs.length : Int) = n * n ∧ ∀ p q : Int, 0 ≤ p → p < n → 0 ≤ q → q < n → (p < x ∨ (p = x ∧ q < y)) → bs.getD (p * n + q).toNat false = bP (Sym f g k p q)
section
variable {f : Int → Int → Int} {g : Bool} {k : Nat} {n : Int} {bs : List Bool} {x y : Nat}
theorem SymL.start {N : Nat} (h : n * n = (N : Int)) : SymL f g k n (List.replicate N false) 0 0 := ⟨by rw [List.length_replicate, h], fun p q h1 h2 h3 h4 h5 => by omega⟩
theorem SymL.cell (h : SymL f g k n bs x y) (hx : (x : Int) < n) (hy : (y : Int) < n) : SymL f g k n (bs.set ((x : Int) * n + (y : Int)).toNat (bP (Sym f g k x y))) x (y + 1) := by
 obtain ⟨hl, h⟩ := h; have hi := idx_ok (n := n) (x := x) (y := y) (by omega) (by omega); refine ⟨by rw [List.length_set, hl], fun p q h1 h2 h3 h4 h5 => ?_⟩; have hj := idx_ok (n := n) (x := p) (y := q) (by omega) (by omega); rw [getD_set (by omega)]; split
 ·next e =>
  have := num_digits (H := n) (W := n) (a := p) (b := x) (x := q) (y := y) (by omega) (by omega) (by omega); rw [this.1, this.2]
 next e => exact h p q h1 h2 h3 h4 (by
  by_cases e2 : p = x ∧ q = y
  ·rw [e2.1, e2.2] at e; exact absurd rfl e
  omega)
theorem SymL.row (h : SymL f g k n bs x y) (he : n ≤ y) : SymL f g k n bs (x + 1) 0 := ⟨h.1, fun p q h1 h2 h3 h4 h5 => h.2 p q h1 h2 h3 h4 (by omega)⟩
theorem SymL.at_ (h : SymL f g k n bs x y) {p q : Int} (hp : 0 ≤ p ∧ p < n) (hq : 0 ≤ q ∧ q < n) (hx : p < x ∨ (p = x ∧ q < y)) : bs.getD (p * n + q).toNat false = bP (Sym f g k p q) := h.2 p q hp.1 hp.2 hq.1 hq.2 hx
def Em (f : Int → Int → Int) (g : Bool) (k : Nat) (n : Int) (e : Bool) (x y : Nat) : Prop := e = true ↔ NoR f g k n x y
theorem Em.start : Em f g k n true 0 0 := ⟨fun _ => NoR.start, fun _ => rfl⟩
theorem Em.cell {e : Bool} (h : Em f g k n e x y) (hy : (y : Int) < n) : Em f g k n (e && !bP (Sym f g k x y)) x (y + 1) := by
 unfold Em at h ⊢; rw [Bool.and_eq_true, h, bP_not, bP_true]; exact ⟨fun ⟨h1, h2⟩ => h1.cell h2, fun h1 => ⟨fun p q a1 a2 a3 a4 => h1 p q a1 a2 a3 (by omega), h1 x y (by omega) (by omega) hy (by omega)⟩⟩
theorem Em.row {e : Bool} (h : Em f g k n e x y) (he : n ≤ y) : Em f g k n e (x + 1) 0 := by
 unfold Em at h ⊢; rw [h]; exact ⟨fun h1 => h1.row he, fun h1 p q a1 a2 a3 a4 => h1 p q a1 a2 a3 (by omega)⟩
theorem Em.all {e : Bool} (h : Em f g k n e x 0) (he : n ≤ x) (hn : 0 < n) (hp : Per n f) : e = bP (¬ Ex f g k) :=
 bP_of ⟨fun h1 => (h.1 h1).all he hn hp, fun h1 => h.2 (fun p q _ _ _ _ hs => h1 ⟨p, q, hs⟩)⟩
end
def Mk (f : Int → Int → Int) (k : Nat) (n : Int) (Z : Int → Prop) (bs : List Bool) (a b : Int) : Prop :=
 (bs.length : Int) = 2 * n ∧ ∀ i : Int, 0 ≤ i → i < 2 * n → (bs.getD i.toNat false = true ↔ ∃ p q, Win2 n p q ∧ (p < a ∨ (p = a ∧ q < b)) ∧ Sym f true k p q ∧ axi k p q = i ∧ Z (far k p q))
section
variable {f : Int → Int → Int} {k : Nat} {n a b : Int} {Z : Int → Prop} {bs : List Bool}
theorem Mk.start {N : Nat} (h : 2 * n = (N : Int)) : Mk f k n Z (List.replicate N false) (-2 * n) (-2 * n) := ⟨by rw [List.length_replicate, h], fun i h1 h2 => ⟨fun h3 => by
  rw [List.getD_eq_getElem?_getD, List.getElem?_replicate] at h3
  split at h3 <;> simp at h3, fun ⟨p, q, hw, h3, _⟩ => by unfold Win2 at hw; omega⟩⟩
theorem Mk.skip (h : Mk f k n Z bs a b) (hno : ¬ (Sym f true k a b ∧ (0 ≤ axi k a b ∧ axi k a b < 2 * n) ∧ Z (far k a b))) : Mk f k n Z bs a (b + 1) := ⟨h.1, fun i h1 h2 => by
 rw [h.2 i h1 h2]; constructor
 ·rintro ⟨p, q, hw, h3, h4⟩; exact ⟨p, q, hw, by omega, h4⟩
 rintro ⟨p, q, hw, h3, h4, h5, h6⟩; refine ⟨p, q, hw, ?_, h4, h5, h6⟩; by_cases e : p = a ∧ q = b
 ·obtain ⟨rfl, rfl⟩ := e; exact absurd ⟨h4, by omega, h6⟩ hno
 omega⟩
theorem Mk.row (h : Mk f k n Z bs a b) (hb : 2 * n ≤ b) : Mk f k n Z bs (a + 1) (-2 * n) := ⟨h.1, fun i h1 h2 => by
 rw [h.2 i h1 h2]; constructor
 ·rintro ⟨p, q, hw, h3, h4⟩; exact ⟨p, q, hw, by omega, h4⟩
 rintro ⟨p, q, hw, h3, h4⟩; refine ⟨p, q, hw, ?_, h4⟩; unfold Win2 at hw
 omega⟩
theorem Mk.all (h : Mk f k n Z bs a b) (ha : 2 * n ≤ a) {i : Int} (h1 : 0 ≤ i) (h2 : i < 2 * n) : bs.getD i.toNat false = true ↔ ∃ p q, Win2 n p q ∧ Sym f true k p q ∧ axi k p q = i ∧ Z (far k p q) := by
 rw [h.2 i h1 h2]; constructor
 ·rintro ⟨p, q, hw, h3, h4⟩; exact ⟨p, q, hw, h4⟩
 rintro ⟨p, q, hw, h4⟩; refine ⟨p, q, hw, ?_, h4⟩; unfold Win2 at hw; omega
end
def Met (P : Nat → Prop) (m : Bool) (i : Nat) : Prop := m = true ↔ ∃ j, j < i ∧ P j
section
variable {P : Nat → Prop} {m : Bool} {i : Nat}
theorem Met.start : Met P false 0 := ⟨fun h => (by cases h), fun ⟨j, hj, _⟩ => (by omega)⟩
theorem Met.keep (h : Met P true i) : Met P true (i + 1) := ⟨fun _ => let ⟨j, h1, h2⟩ := h.1 rfl; ⟨j, by omega, h2⟩, fun _ => rfl⟩
theorem Met.no (h : Met P false i) (hn : ¬ P i) : Met P false (i + 1) := by
 refine ⟨fun h => (by cases h), ?_⟩; rintro ⟨j, h1, h2⟩; by_cases e : j = i
 ·rw [e] at h2; exact absurd h2 hn
 exact h.2 ⟨j, by omega, h2⟩
end
end Go.Proofs.YtddbmckbankmeaaGreat
set_option linter.unusedVariables false
set_option linter.unusedSimpArgs false
namespace Go.Proofs.YtddbmckbankmeaaGreat
open Go.RowKit Go.ChangeShapes Go.WideShapes Go.ChangeAt Go.WideMaps Go.Joins
open Go.Maps (Keyed)
def vvv (v : Int × Int) : Value := .agg #[.int .i64 v.1, .int .i64 v.2]
noncomputable def keyV (v : Int × Int) : Option Lit := keyOf Tryz.prog 206 (vvv v)
def memV (u : Int × Int) (us : List (Int × Int)) : Bool := us.any (fun x => x.1 == u.1 && x.2 == u.2)
def MapV (w : World) (b : Nat) (us : List (Int × Int)) : Prop := ∃ D : DataW Unit, w.ownsMap Tryz.prog 206 (plainElem Tryz.prog 4) b us.length D ∧ ∀ u kl, keyV u = some kl → D.atKey kl (.lit (.bool false)) = .lit (.bool (memV u us))
theorem owns_congr {k : TypeId} {R : Value → Option (DataW Unit × List MemPlace)} {w w' : World} {b n : Nat} {D : DataW Unit} (e : w'.heap[b]? = w.heap[b]?) (h : w.ownsMap Tryz.prog k R b n D) : w'.ownsMap Tryz.prog k R b n D := by
 obtain ⟨es, clock, hb, r⟩ := h; exact ⟨es, clock, e.trans hb, r⟩
def IsM (w : World) (b : Nat) : Prop := ∃ es clock, w.heap[b]? = some (.map es clock)
theorem owns_isM {k : TypeId} {R : Value → Option (DataW Unit × List MemPlace)} {w : World} {b n : Nat} {D : DataW Unit} (h : w.ownsMap Tryz.prog k R b n D) : IsM w b := by
 obtain ⟨es, clock, hb, _⟩ := h; exact ⟨es, clock, hb⟩
theorem isM_ne {w : World} {b g : Nat} {t : TypeId} {us : List Value} (h : IsM w b) (hg : Blk w g t us) : g ≠ b := fun e => by
 subst e; obtain ⟨es, clock, hb⟩ := h; unfold Blk at hg; rw [hg] at hb; cases hb
theorem putL_heap {g i : Nat} (hne : i ≠ g) : ∀ (vs : List Value) (w : World) (o : Nat), (putL w g o vs).heap[i]? = w.heap[i]?
 | [], _, _ => rfl
 | v :: vs, w, o => (putL_heap hne vs _ (o + 1)).trans (Below.heap_setCell w ⟨g, o, none⟩ v i hne)
section
variable {w w' : World} {b : Nat} {us : List (Int × Int)} {u : Int × Int}
theorem MapV.congr (h : MapV w b us) (e : w'.heap[b]? = w.heap[b]?) : MapV w' b us := by
 obtain ⟨D, h1, h2⟩ := h; exact ⟨D, owns_congr e h1, h2⟩
theorem MapV.isM (h : MapV w b us) : IsM w b := by
 obtain ⟨D, h1, _⟩ := h; exact owns_isM h1
theorem MapV.lt (h : MapV w b us) : b < w.heap.size := by
 obtain ⟨D, h1, _⟩ := h; exact h1.lt
theorem MapV.to (h : MapV w b us) (hb : Below w.heap.size w w') : MapV w' b us := h.congr (hb.block b h.lt)
end
structure Ae where
 v : Int × Int
 b : Nat
 us : List (Int × Int)
def fnd (al : List Ae) (v : Int × Int) : Option Ae := al.find? (fun e => decide (e.v = v))
def RB (v : Value) : Option (DataW Unit × List MemPlace) := match v with | .map (some b) => some (.lit (.int .i64 (b : Int)), []) | .map none => some (.nil, []) | _ => none
def atA (al : List Ae) (v : Int × Int) (z : DataW Unit) : DataW Unit := match fnd al v with | some e => .lit (.int .i64 (e.b : Int)) | none => z
def OutM (w : World) (bm : Nat) (al : List Ae) (D : DataW Unit) (n : Nat) : Prop := w.ownsMap Tryz.prog 206 RB bm n D ∧ n ≤ al.length ∧ (∀ v kl z, keyV v = some kl → D.atKey kl z = atA al v z) ∧ ∀ kl, Maps.has D kl = true → ∃ e ∈ al, keyV e.v = some kl
structure MM (w : World) (lo bm : Nat) (al : List Ae) : Prop where
 out : ∃ D n, OutM w bm al D n
 hlo : lo ≤ bm
 inn : ∀ e ∈ al, (∃ kl, keyV e.v = some kl) ∧ MapV w e.b e.us ∧ lo ≤ e.b ∧ e.b ≠ bm
 ap : al.Pairwise (fun e e' => e.v ≠ e'.v ∧ e.b ≠ e'.b)
section
variable {w w' : World} {lo bm b r : Nat} {al : List Ae} {e e' : Ae} {u v : Int × Int}
theorem ap_eq (h : al.Pairwise (fun e e' => e.v ≠ e'.v ∧ e.b ≠ e'.b)) (he : e ∈ al) (he' : e' ∈ al) : (e.v = e'.v → e = e') ∧ (e.b = e'.b → e = e') := by
 induction al with
 | nil => cases he
 | cons a l ih =>
  rw [List.pairwise_cons] at h; rcases List.mem_cons.1 he with e1 | h1
  ·rcases List.mem_cons.1 he' with e2 | h2
   ·exact ⟨fun _ => e1.trans e2.symm, fun _ => e1.trans e2.symm⟩
   rw [e1]; exact ⟨fun h3 => absurd h3 (h.1 e' h2).1, fun h3 => absurd h3 (h.1 e' h2).2⟩
  rcases List.mem_cons.1 he' with e2 | h2
  ·rw [e2]; exact ⟨fun h3 => absurd h3.symm (h.1 e h1).1, fun h3 => absurd h3.symm (h.1 e h1).2⟩
  exact ih h.2 h1 h2
theorem fnd_some (h : fnd al v = some e) : e ∈ al ∧ e.v = v := ⟨List.mem_of_find?_eq_some h, by simpa using List.find?_some h⟩
theorem fnd_none (h : fnd al v = none) : ∀ e ∈ al, e.v ≠ v := fun e he => by simpa using List.find?_eq_none.1 h e he
theorem fnd_mem (ha : al.Pairwise (fun e e' => e.v ≠ e'.v ∧ e.b ≠ e'.b)) (he : e ∈ al) : fnd al e.v = some e := by
 cases h : fnd al e.v with
 | none => exact absurd rfl (fnd_none h e he)
 | some x =>
  obtain ⟨h1, h2⟩ := fnd_some h; rw [(ap_eq ha h1 he).1 h2]
theorem MM.congr (h : MM w lo bm al) (h0 : w'.heap[bm]? = w.heap[bm]?) (h1 : ∀ e ∈ al, w'.heap[e.b]? = w.heap[e.b]?) : MM w' lo bm al := by
 obtain ⟨⟨D, n, a1, a2⟩, h2, h3, h4⟩ := h; exact ⟨⟨D, n, owns_congr h0 a1, a2⟩, h2, fun e he => ⟨(h3 e he).1, (h3 e he).2.1.congr (h1 e he), (h3 e he).2.2⟩, h4⟩
theorem MM.isM (h : MM w lo bm al) : IsM w bm := by
 obtain ⟨⟨D, n, a1, a2⟩, _⟩ := h; exact owns_isM a1
theorem MM.lt (h : MM w lo bm al) : bm < w.heap.size := by
 obtain ⟨⟨D, n, a1, a2⟩, _⟩ := h; exact a1.lt
theorem MM.to (h : MM w lo bm al) (hb : Below w.heap.size w w') : MM w' lo bm al := h.congr (hb.block bm h.lt) (fun e he => hb.block e.b (h.inn e he).2.1.lt)
theorem MM.putB (h : MM w lo bm al) {g o : Nat} {t : TypeId} {us vs : List Value} (hg : Blk w g t us) : MM (putL w g o vs) lo bm al :=
 h.congr (putL_heap (Ne.symm (isM_ne h.isM hg)) vs w o) (fun e he => putL_heap (Ne.symm (isM_ne (h.inn e he).2.1.isM hg)) vs w o)
theorem MM.grown (h : MM w lo bm al) (hg : w.grownBy w' (some r)) (h0 : bm ≠ r) (h1 : ∀ e ∈ al, e.b ≠ r) : MM w' lo bm al :=
 h.congr (hg.block bm h.lt (fun e2 => h0 (Option.some.inj e2))) (fun e he => hg.block e.b (h.inn e he).2.1.lt (fun e2 => h1 e he (Option.some.inj e2)))
def upd (al : List Ae) (v u : Int × Int) : List Ae := al.map (fun e => if e.v = v then ⟨e.v, e.b, e.us ++ [u]⟩ else e)
theorem upd_vb (e : Ae) : (if e.v = v then (⟨e.v, e.b, e.us ++ [u]⟩ : Ae) else e).v = e.v ∧ (if e.v = v then (⟨e.v, e.b, e.us ++ [u]⟩ : Ae) else e).b = e.b := by split <;> exact ⟨rfl, rfl⟩
theorem fnd_upd (v' : Int × Int) : (fnd (upd al v u) v').map Ae.b = (fnd al v').map Ae.b := by
 unfold fnd upd
 induction al with
 | nil => rfl
 | cons a l ih =>
  rw [List.map_cons, List.find?_cons, List.find?_cons, (upd_vb a).1]; cases decide (a.v = v')
  ·exact ih
  simp only [Option.map_some, (upd_vb a).2]
theorem MM.one (h : MM w lo bm al) (he : e ∈ al) (hm : MapV w' e.b (e.us ++ [u])) (hg : w.grownBy w' (some e.b)) : MM w' lo bm (upd al e.v u) := by
 have hbm := h.lt; obtain ⟨⟨D, n, a1, a2, a3, a4⟩, h2, h3, h4⟩ := h; have hkeep : ∀ q, q < w.heap.size → q ≠ e.b → w'.heap[q]? = w.heap[q]? := fun q h1 h2 => hg.block q h1 (fun e2 => h2 (Option.some.inj e2))
 refine ⟨⟨D, n, owns_congr (hkeep bm hbm (Ne.symm (h3 e he).2.2.2)) a1, by unfold upd; rw [List.length_map]; exact a2, fun v kl z hk => ?_, fun kl hh => ?_⟩, h2, fun x hx => ?_, ?_⟩
 ·rw [a3 v kl z hk]; unfold atA; have hfu := fnd_upd (al := al) (v := e.v) (u := u) v; cases h5 : fnd al v <;> cases h6 : fnd (upd al e.v u) v <;> rw [h5, h6] at hfu <;> simp at hfu <;> simp [hfu]
 ·obtain ⟨x, hx, hx2⟩ := a4 kl hh; refine ⟨_, List.mem_map.2 ⟨x, hx, rfl⟩, ?_⟩; rw [(upd_vb x).1]; exact hx2
 ·unfold upd at hx; obtain ⟨y, hy, rfl⟩ := List.mem_map.1 hx; obtain ⟨q1, q2, q3, q4⟩ := h3 y hy; by_cases ey : y.v = e.v
  ·have := (ap_eq h4 hy he).1 ey; subst this; rw [if_pos rfl]; exact ⟨q1, hm, q3, q4⟩
  rw [if_neg ey]; have hb : y.b ≠ e.b := fun e2 => ey (by rw [(ap_eq h4 hy he).2 e2])
  exact ⟨q1, q2.congr (hkeep y.b q2.lt hb), q3, q4⟩
 unfold upd; rw [List.pairwise_map]; refine h4.imp ?_; intro a b ⟨h5, h6⟩; rw [(upd_vb a).1, (upd_vb b).1, (upd_vb a).2, (upd_vb b).2]; exact ⟨h5, h6⟩
end
structure RgM (w : World) (lo bm : Nat) (al : List Ae) (r : Nat) (D : DataW Unit) (n : Nat) (left : Lit → Bool) (cnt : Nat) : Prop where
 mm : MM w lo bm al
 out : OutM w bm al D n
 rg : w.ranges Tryz.prog 206 RB bm r n D left cnt
 hr : lo ≤ r
theorem ranges_congr {w w' : World} {b r n : Nat} {D : DataW Unit} {left : Lit → Bool} {cnt : Nat} (h : w.ranges Tryz.prog 206 RB b r n D left cnt) (e1 : w'.heap[b]? = w.heap[b]?) (e2 : w'.heap[r]? = w.heap[r]?) : w'.ranges Tryz.prog 206 RB b r n D left cnt := by
 obtain ⟨es, clock, since, seen, c0, hb, F, hs, hD, hr, rest⟩ := h; exact ⟨es, clock, since, seen, c0, e1.trans hb, F, hs, hD, e2.trans hr, rest⟩
theorem ranges_cell {w : World} {b r n : Nat} {D : DataW Unit} {left : Lit → Bool} {cnt : Nat} (h : w.ranges Tryz.prog 206 RB b r n D left cnt) {g : Nat} {t : TypeId} {us : List Value} (hg : Blk w g t us) : g ≠ r := fun e => by
 subst e; obtain ⟨es, clock, since, seen, c0, hb, F, hs, hD, hr, rest⟩ := h; unfold Blk at hg; rw [hg] at hr; cases hr
theorem ranges_map {w : World} {b r n : Nat} {D : DataW Unit} {left : Lit → Bool} {cnt : Nat} (h : w.ranges Tryz.prog 206 RB b r n D left cnt) {g : Nat} (hg : IsM w g) : g ≠ r := fun e => by
 subst e; obtain ⟨es', c', hg⟩ := hg; obtain ⟨es, clock, since, seen, c0, hb, F, hs, hD, hr, rest⟩ := h; rw [hg] at hr; cases hr
section
variable {w w' : World} {lo bm r n : Nat} {al : List Ae} {D : DataW Unit} {left : Lit → Bool} {cnt : Nat}
theorem RgM.lt (h : RgM w lo bm al r D n left cnt) : bm < w.heap.size := h.mm.lt
theorem RgM.to (h : RgM w lo bm al r D n left cnt) (hb : Below w.heap.size w w') : RgM w' lo bm al r D n left cnt :=
 ⟨h.mm.to hb, ⟨owns_congr (hb.block bm h.mm.lt) h.out.1, h.out.2⟩, ranges_congr h.rg (hb.block bm h.mm.lt) (hb.block r h.rg.lt), h.hr⟩
theorem RgM.putB (h : RgM w lo bm al r D n left cnt) {g o : Nat} {t : TypeId} {us vs : List Value} (hg : Blk w g t us) : RgM (putL w g o vs) lo bm al r D n left cnt := by
 have e1 := putL_heap (Ne.symm (isM_ne h.mm.isM hg)) vs w o; exact ⟨h.mm.putB hg, ⟨owns_congr e1 h.out.1, h.out.2⟩, ranges_congr h.rg e1 (putL_heap (Ne.symm (ranges_cell h.rg hg)) vs w o), h.hr⟩
theorem RgM.next (h : RgM w lo bm al r D n left cnt) {left' : Lit → Bool} {cnt' : Nat} (hg : w.grownBy w' (some r)) (hn : w'.ranges Tryz.prog 206 RB bm r n D left' cnt') : RgM w' lo bm al r D n left' cnt' := by
 have e0 := ranges_map h.rg h.mm.isM; have m := h.mm.grown hg e0 (fun e he => ranges_map h.rg (h.mm.inn e he).2.1.isM); exact ⟨m, ⟨owns_congr (hg.block bm h.mm.lt (fun e2 => e0 (Option.some.inj e2))) h.out.1, h.out.2⟩, hn, h.hr⟩
end
def RMet (al : List Ae) (Q : Ae → Prop) (left : Lit → Bool) (m : Bool) : Prop := (m = true → ∃ e ∈ al, Q e) ∧ ∀ e ∈ al, ∀ kl, keyV e.v = some kl → left kl = false → Q e → m = true
section
variable {w : World} {lo bm n : Nat} {al : List Ae} {D : DataW Unit} {left : Lit → Bool} {Q : Ae → Prop} {e : Ae} {kl : Lit} {b : Bool}
theorem RMet.start (hm : MM w lo bm al) (ho : OutM w bm al D n) : RMet al Q (Maps.has D) false := ⟨fun h => (by cases h), fun e he kl hk hl _ => by
 have h1 : ∀ z, D.atKey kl z = .lit (.int .i64 (e.b : Int)) := fun z => by
  rw [ho.2.2.1 e.v kl z hk]; unfold atA; rw [fnd_mem hm.ap he]
 rw [Maps.has_true_of_atKey h1] at hl
 cases hl⟩
theorem RMet.keep (h : RMet al Q left true) {left' : Lit → Bool} : RMet al Q left' true := ⟨h.1, fun _ _ _ _ _ _ => rfl⟩
theorem RMet.done (h : RMet al Q left b) (hm : MM w lo bm al) (hl : ∀ kl, left kl = false) : b = bP (∃ e ∈ al, Q e) :=
 bP_of ⟨h.1, fun ⟨e, he, hq⟩ => let ⟨kl, hk⟩ := (hm.inn e he).1; h.2 e he kl hk (hl kl) hq⟩
end
def Pre (X Y E : Nat) (x y e : Int) : Prop := x < X ∨ (x = X ∧ (y < Y ∨ (y = Y ∧ e < E)))
def CovS (f : Int → Int → Int) (g : Bool) (k : Nat) (n : Int) (X Y E : Nat) (v u : Int × Int) : Prop := ∃ x y e, Win n x y e ∧ Pre X Y E x y e ∧ Sym f g k x y ∧ vP g n k (x + n * e) y = v ∧ uP g n k (x + n * e) y = u
structure Cov (f : Int → Int → Int) (g : Bool) (k : Nat) (n : Int) (al : List Ae) (X Y E : Nat) : Prop where
 hiff : ∀ v u, (∃ e ∈ al, e.v = v ∧ u ∈ e.us) ↔ CovS f g k n X Y E v u
 ne : ∀ e ∈ al, e.us ≠ []
 len : ∃ c : Nat, (c : Int) ≤ 60 * X + 2 * Y + E ∧ al.length ≤ c ∧ ∀ e ∈ al, e.us.length ≤ c
section
variable {f : Int → Int → Int} {g : Bool} {k : Nat} {n : Int} {X Y E X' Y' E' : Nat} {al : List Ae} {u v : Int × Int}
theorem covS_congr (h : ∀ x y e, Win n x y e → Sym f g k x y → (Pre X Y E x y e ↔ Pre X' Y' E' x y e)) : CovS f g k n X Y E v u ↔ CovS f g k n X' Y' E' v u := by
 constructor
 ·rintro ⟨x, y, e, hw, hp, hs, h2⟩; exact ⟨x, y, e, hw, (h x y e hw hs).1 hp, hs, h2⟩
 rintro ⟨x, y, e, hw, hp, hs, h2⟩; exact ⟨x, y, e, hw, (h x y e hw hs).2 hp, hs, h2⟩
theorem Cov.move (h : Cov f g k n al X Y E) (hc : ∀ x y e, Win n x y e → Sym f g k x y → (Pre X Y E x y e ↔ Pre X' Y' E' x y e)) (hl : (60 * X + 2 * Y + E : Int) ≤ 60 * X' + 2 * Y' + E') : Cov f g k n al X' Y' E' :=
 ⟨fun v u => (h.hiff v u).trans (covS_congr hc), h.ne, let ⟨c, h1, h2⟩ := h.len; ⟨c, Int.le_trans h1 hl, h2⟩⟩
theorem Cov.start : Cov f g k n [] 0 0 0 := ⟨fun v u => ⟨fun ⟨e, he, _⟩ => (by cases he), fun ⟨x, y, e, hw, hp, _⟩ => (by unfold Win at hw; unfold Pre at hp; omega)⟩, fun e he => (by cases he), 0, by omega, by simp, fun e he => (by cases he)⟩
theorem Cov.skip (h : Cov f g k n al X Y 0) (hs : ¬ Sym f g k X Y) : Cov f g k n al X (Y + 1) 0 := h.move (fun x y e hw h1 => by
 unfold Win at hw; unfold Pre; by_cases e2 : x = X ∧ y = Y
 ·rw [e2.1, e2.2] at h1; exact absurd h1 hs
 constructor <;> intro h2 <;> omega) (by omega)
theorem Cov.next (h : Cov f g k n al X Y 2) : Cov f g k n al X (Y + 1) 0 := h.move (fun x y e hw h1 => by
 unfold Win at hw; unfold Pre
 constructor <;> intro h2 <;> omega) (by omega)
theorem Cov.row (h : Cov f g k n al X Y 0) (hn : n ≤ 30) (hY : n ≤ Y) (hY2 : (Y : Int) ≤ n) : Cov f g k n al (X + 1) 0 0 := h.move (fun x y e hw h1 => by
 unfold Win at hw; unfold Pre
 constructor <;> intro h2 <;> omega) (by omega)
theorem Cov.all (h : Cov f g k n al X 0 0) (hX : n ≤ X) (v u : Int × Int) : (∃ e ∈ al, e.v = v ∧ u ∈ e.us) ↔ ∃ x y e, Win n x y e ∧ Sym f g k x y ∧ vP g n k (x + n * e) y = v ∧ uP g n k (x + n * e) y = u := by
 rw [h.hiff]; constructor
 ·rintro ⟨x, y, e, hw, hp, h2⟩; exact ⟨x, y, e, hw, h2⟩
 rintro ⟨x, y, e, hw, h2⟩; exact ⟨x, y, e, hw, by unfold Win at hw; unfold Pre; omega, h2⟩
end
section
variable {Q : Exit → Act → World → Prop} {ops : Array Oper} {rest : List Oper} {o : Oper} {a : Act} {w : World} {d lo bm b : Nat} {x y z : Operand} {al : List Ae} {u v : Int × Int} {us : List (Int × Int)} {kl : Lit}
end
theorem Env.grownM {w w' : World} {b : Nat} {L : List Ent} (k : Env w L) (hg : w.grownBy w' (some b)) (hm : IsM w b) : Env w' L := Env.grown k hg (fun e he => isM_ne hm (k.mem he))
section
variable {Q : Exit → Act → World → Prop} {o : Oper} {a : Act} {w : World} {d g k n j : Nat} {x y z : Operand} {a0 b0 c0 d0 : Int} {A : Option Addr}
end
end Go.Proofs.YtddbmckbankmeaaGreat
set_option linter.unusedVariables false
set_option linter.unusedSimpArgs false
namespace Go.Proofs.YtddbmckbankmeaaGreat
open Go.RowKit
def OwnI (lo : Nat) (w : World) (v : Value) (xs : List Int) : Prop := w.ownsRow lo 3 1 v xs.length (ints xs)
section
variable {lo g o : Nat} {w w' : World} {v : Value} {xs : List Int} {vs : List Value}
theorem OwnI.to (h : OwnI lo w v xs) (hb : Below w.heap.size w w') : OwnI lo w' v xs := own_to h hb
theorem OwnI.put (h : OwnI lo w v xs) (hlt : ∀ k, v.ownBlock = some k → k < g) : OwnI lo (putL w g o vs) v xs := own_put hlt h
theorem OwnI.lt (h : OwnI lo w v xs) : ∀ k, v.ownBlock = some k → lo ≤ k ∧ k < w.heap.size := World.ownsRow.lt h
theorem Env.grownBy_ {row : Option Nat} : ∀ {L : List Ent}, Env w L → w.grownBy w' row → (∀ e ∈ L, some e.g ≠ row) → Env w' L
 | [], _, _, _ => trivial
 | e :: L, ⟨h1, h2, h3⟩, hg, hne => ⟨(hg.block e.g h1.lt (hne e (List.mem_cons_self ..))).trans h1, h2, Env.grownBy_ h3 hg (fun e' he => hne e' (List.mem_cons_of_mem _ he))⟩
theorem Env.alloc_ (o : Obj) {L : List Ent} (h : Env w L) : Env (w.alloc o) L := h.to (below_alloc (Below.refl _ _) o)
def isIs (lo : Nat) (xs : List Int) : SP := ⟨fun v w => OwnI lo w v xs, fun v w w' h hb => h.to hb⟩
theorem group_not {W H : Nat} {ms : List Mv} (h : gB W H ms = true) (hs : sizeB W H = true) : ∀ i, i < ms.length → Al W H (nthM ms i) := ((gB_iff hs ms).1 h).1
end
section
variable {P : Program} {ops : Array Oper} {Q : Exit → Act → World → Prop} {md : Region.Mode}
end
section
variable {Q : Exit → Act → World → Prop} {id : Nat} {l : List Oper} {a0 : Act} {w0 : World}
def FV (AL : List Nat) (T : TypeId) (z : List Value) (B : Nat) (Vs : List SP) (i : Nat) (v : Value) (w : World) : Prop := if AL.contains i then ∃ g, v = .pointer (some ⟨g, 0, none⟩) ∧ B ≤ g ∧ Blk w g T z else vp Vs i v w
end
theorem ri_news {w : World} {ad : Addr} {l : List Int} (h : RI w (some ad) l) : ∀ j u, (ints l)[j]? = some u → w.cell? (ad.add j) = some u := fun j u hu => by
 have hj : j < l.length := by
  rcases Nat.lt_or_ge j l.length with h | h
  ·exact h
  rw [List.getElem?_eq_none (by rw [ints_length]; exact h)] at hu; cases hu
 obtain ⟨ad', e, hc⟩ := h (by omega); injection e with e
 subst e; rw [ints_get l hj] at hu; rw [hc j hj, ← Option.some.inj hu]
theorem ints_one (l : List Int) : ∀ u ∈ ints l, u.oneCell' = true := fun u hu => by
 obtain ⟨x, _, rfl⟩ := List.mem_map.1 hu; rfl
theorem OwnI.cl {lo : Nat} {w : World} {v : Value} {xs : List Int} (h : OwnI lo w v xs) : ∃ A k, v = .slice A xs.length k ∧ RI w A xs ∧ (∀ ad, A = some ad → lo ≤ ad.block) ∧ xs.length ≤ k ∧ k ≤ 9223372036854775807 := by
 rcases h.2 with ⟨rfl, h0⟩ | ⟨g, cap, cur, rfl, hg, hh, hnc, hcm, hcs, htk⟩
 ·have : xs = [] := List.eq_nil_of_length_eq_zero h0; subst this; exact ⟨none, 0, rfl, RI.nil _ _, (fun ad h => by cases h), Nat.le_refl _, by omega⟩
 refine ⟨some ⟨g, 0, none⟩, cap, rfl, fun _ => ⟨_, rfl, fun j hj => ?_⟩, (fun ad h => by rw [← Option.some.inj h]; exact hg), hnc, by unfold maxLen at hcm; omega⟩; rw [addr_zero, cell_of_row w g j cur 3 (0, 0) hh, ← Array.getElem?_toList]
 have : cur.toList[j]? = (ints xs)[j]? := by
  rw [← htk, List.getElem?_take, if_pos (by omega)]
 rw [this, ints_get xs hj]
section
variable {Q : Exit → Act → World → Prop} {o : Oper} {a : Act} {w : World} {d : Nat} {x y z : Operand} {ad : Addr} {c lo : Nat} {v0 : Value} {xs ys : List Int} {R : Act → World → Prop}
theorem own_int {g : Nat} (h : OwnI lo w v0 xs) (hg : v0.ownBlock = some g) : ∃ cur, w.heap[g]? = some (.cells cur 3 (0, 0)) := by
 rcases h.2 with ⟨rfl, h0⟩ | ⟨g', cap, cur, rfl, _, hh, _⟩
 ·cases hg
 injection hg with hg
 subst hg; exact ⟨cur, hh⟩
theorem op_appI (ho : o.op = .call { callee := .builtin .append, args := #[x, y], argTypes := #[41, 41] }) (hd : o.dst = some d) (hx : a.eval x = v0) (hown : OwnI lo w v0 xs) (hy : a.eval y = .slice (some ad) ys.length c) (hri : RI w (some ad) ys) (hpos : 0 < ys.length) (hlen : xs.length + ys.length ≤ 1000000) (hlo : lo ≤ w.heap.size)
  (hK : ∀ v w', OwnI lo w' v (xs ++ ys) → w.grownBy w' v0.ownBlock → R (a.put (some d) v) w') : o.wp Tryz.prog a w R Q := by
 obtain ⟨i0, hi, hz0, hz1, hz2⟩ := info_parts Tryz.info_int; refine wp_append_lies w x y 41 ho lo 3 i0 (.int .i64 0) 1 8 Tryz.underlying41 hi hz0 hz1 hz2 rfl (by decide) v0 xs.length (ints xs) hx hown ad ys.length c (ints ys) hy (by rw [ints_length, Nat.mul_one]) (ri_news hri) (ints_one ys) hpos (by unfold maxLen; omega) (by omega) hlo _ rfl ?_; intro g cap w' h1 h2 _ _; rw [hd]; refine hK _ w' ?_ h2; unfold OwnI; rw [List.length_append, show ints (xs ++ ys) = ints xs ++ ints ys from by simp [ints]]; exact h1
end
theorem blk_grown {w w' : World} {g : Nat} {t : TypeId} {us : List Value} {row : Option Nat} (h : Blk w g t us) (hg : w.grownBy w' row) (hne : ∀ r, row = some r → r ≠ g) : Blk w' g t us := (hg.block g h.lt (fun e => hne g e.symm rfl)).trans h
theorem own_ne {lo g : Nat} {w : World} {v0 : Value} {xs : List Int} {t : TypeId} {us : List Value} (h : OwnI lo w v0 xs) (hb : Blk w g t us) (ht : t ≠ 3) : ∀ r, v0.ownBlock = some r → r ≠ g := fun r hr e => by
 subst e; obtain ⟨cur, hc⟩ := own_int h hr; unfold Blk at hb; rw [hb] at hc; injection hc with hc
 injection hc with _ hc
 exact ht hc
theorem OwnI.putT {lo g o : Nat} {w : World} {v : Value} {xs : List Int} {t : TypeId} {us vs : List Value} (h : OwnI lo w v xs) (hb : Blk w g t us) (ht : t ≠ 3) : OwnI lo (putL w g o vs) v xs := by
 have hne := own_ne h hb ht; refine ⟨h.1, ?_⟩; rcases h.2 with hn | ⟨g', cap, cur, rfl, hg, hh, rest⟩
 ·exact .inl hn
 exact .inr ⟨g', cap, cur, rfl, hg, (putL_heap (hne g' rfl) vs w o).trans hh, rest⟩
def CellsI (w : World) (A : Option Addr) (ys : List Int) : Prop := RI w A ys ∧ ∀ ad, A = some ad → ∃ cur, w.heap[ad.block]? = some (.cells cur 3 (0, 0))
section
variable {w w' : World} {A : Option Addr} {ys : List Int} {lo : Nat} {k n : Nat}
theorem OwnI.ci (h : OwnI lo w (.slice A n k) ys) : CellsI w A ys := by
 refine ⟨?_, fun ad e => ?_⟩
 ·obtain ⟨A', k', e, h1, _⟩ := OwnI.cl h; injection e with e1 e2 e3
  rw [e1]; exact h1
 rcases h.2 with ⟨e2, h0⟩ | ⟨g', cap, cur, e2, _, hh, _⟩
 ·injection e2 with e3
  rw [e] at e3; cases e3
 injection e2 with e3
 rw [e] at e3; injection e3 with e3
 subst e3; exact ⟨cur, hh⟩
theorem CellsI.to (h : CellsI w A ys) (hb : Below w.heap.size w w') : CellsI w' A ys := ⟨h.1.to hb, fun ad e => by
 obtain ⟨cur, hc⟩ := h.2 ad e; have hlt : ad.block < w.heap.size := (Array.getElem?_eq_some_iff.1 hc).1
 exact ⟨cur, (hb.block _ hlt).trans hc⟩⟩
end
theorem op_buT01 {o : Oper} {a : Act} {x y : Operand} {b1 b2 : Int} (ho : o.op = .build 43 #[(0, x), (1, y)]) (h0 : a.eval x = .int .i64 b1) (h1 : a.eval y = .int .i64 b2) (w : World) : (execOp a.eval o).run Tryz.prog w = .ok (.value (.agg #[.int .i64 b1, .int .i64 b2, .slice none 0 0])) w := by
 generalize a.eval = ev at h0 h1 ⊢; unfold execOp; simp only [ho]; simp [go_sem, h0, h1]
theorem sto_S {w : World} {g off n k : Nat} {t : TypeId} {us : List Value} {v : Value} {A : Option Addr} (h : Blk w g t us) (hv : us[off]? = some v) : (Instr.storeAt 41 (.pointer (some ⟨g, off, none⟩)) (.slice A n k)).run Tryz.prog w = .ok () (putL w g off [.slice A n k]) := by
 have h0 := (h.cell off).trans hv; have f0 := h.frozen off; simp only [putL]; simp [go_sem, h0, f0]
set_option linter.unusedSectionVars false
set_option linter.unnecessarySimpa false
section
variable {α : Type} [Inhabited α] {enc : α → List Value} {k g n : Nat} {t : TypeId} {w : World} {d d' : Array α} {rest : List Value} {os : Array Obj}
theorem flat_get (hk : ∀ x, (enc x).length = k) : ∀ (l : List α) (t : Nat), t < l.length * k → (l.flatMap enc)[t]? = some ((enc l[t / k]!)[t % k]!)
 | [], t, h => absurd h (by simp)
 | x :: l, t, h => by
  rw [List.flatMap_cons]
  have k0 : 0 < k := by
   rcases Nat.eq_zero_or_pos k with h0 | h0
   ·subst h0; simp at h
   exact h0
  by_cases ht : t < k
  ·rw [List.getElem?_append_left (by rw [hk]; exact ht), Nat.div_eq_of_lt ht, Nat.mod_eq_of_lt ht, List.getElem?_eq_getElem (by rw [hk]; exact ht)]; simp [hk, ht]
  rw [List.getElem?_append_right (by rw [hk]; omega), hk, flat_get hk l (t - k) (by simp only [List.length_cons, Nat.add_mul, Nat.one_mul] at h; omega)]; have e : t = t - k + k := by omega
  have e1 : t / k = (t - k) / k + 1 := by
   conv => lhs; rw [e]
   exact Nat.add_div_right _ k0
  have e2 : t % k = (t - k) % k := by
   conv => lhs; rw [e]
   exact Nat.add_mod_right _ _
  rw [e1, e2]; simp
theorem flat_len (hk : ∀ x, (enc x).length = k) (l : List α) : (l.flatMap enc).length = l.length * k := by
 induction l with
 | nil => simp
 | cons x l ih => rw [List.flatMap_cons, List.length_append, ih, hk, List.length_cons, Nat.add_mul, Nat.one_mul]; omega
theorem bang (d : Array α) (i : Nat) : d.toList[i]! = d[i]! := Array.getElem!_toList
theorem holdsK_blk (hk : ∀ x, (enc x).length = k) (h : Blk w g t (d.toList.flatMap enc ++ rest)) : Go.Sort.HoldsK enc k w g 0 d := fun j hj => by
 rw [Go.Sort.size_flatK] at hj; refine ⟨?_, h.frozen _⟩; rw [Nat.zero_add, h.cell j, List.getElem?_append_left (by rw [flat_len hk]; simpa using hj), flat_get hk _ _ (by simpa using hj)]; show _ = some (Go.Sort.flatK enc k d)[j]!; rw [Go.Sort.get_flatK _ _ _ _ hj, bang d]
theorem sorted_blk (hk : ∀ x, (enc x).length = k) (h : Blk w g t (d.toList.flatMap enc ++ rest)) (hs : d'.size = d.size) : Blk (Go.Proofs.sortWorldK enc k w g 0 n d' os) g t (d'.toList.flatMap enc ++ rest) := by
 have hlt := h.lt; have h' : w.heap[g]? = some (.cells (d.toList.flatMap enc ++ rest).toArray t (0, 0)) := h; unfold Go.Proofs.sortWorldK Go.Sort.putRowK Go.Sort.putRow Go.Sort.mapBlock Go.Sort.grow Go.Sort.ahead Blk; simp only; rw [Array.getElem?_append_left (by simpa using hlt), Array.getElem?_modify, if_pos rfl, h', Option.map_some]; unfold Go.Sort.onCells; simp only; congr 2
 apply Array.ext'; unfold Go.Sort.putCells; simp only [Array.toList_mapIdx]; refine List.ext_getElem? fun q => ?_
 rw [List.getElem?_mapIdx, Go.Sort.size_flatK]; by_cases hq : q < d'.size * k
 ·rw [List.getElem?_append_left (by rw [flat_len hk]; simpa [← hs] using hq), List.getElem?_append_left (by rw [flat_len hk]; simpa using hq), flat_get hk _ _ (by simpa [← hs] using hq), flat_get hk _ _ (by simpa using hq), Option.map_some, if_pos ⟨by omega, by omega⟩, Nat.sub_zero, Go.Sort.get_flatK _ _ _ _ hq, bang d']; rfl
 have hl : (d.toList.flatMap enc).length = (d'.toList.flatMap enc).length := by rw [flat_len hk, flat_len hk]; simp [hs]
 rw [List.getElem?_append_right (by rw [flat_len hk]; simpa [← hs] using hq), List.getElem?_append_right (by rw [flat_len hk]; simpa using hq), hl]
 cases rest[q - (d'.toList.flatMap enc).length]? with
 | none => rfl
 | some u => rw [Option.map_some, if_neg (by omega)]
theorem grownBy_sortK : w.grownBy (Go.Proofs.sortWorldK enc k w g 0 n d' os) (some g) := by
 unfold Go.Proofs.sortWorldK Go.Sort.putRowK Go.Sort.putRow Go.Sort.mapBlock Go.Sort.grow Go.Sort.ahead; refine ⟨rfl, rfl, rfl, by simp, fun q hq hne => ?_⟩; simp only; rw [Array.getElem?_append_left (by simpa using hq), Array.getElem?_modify, if_neg (fun e => hne (by rw [e]))]
end
theorem cmpI_neg (x y : Int) : cmpI y x = - cmpI x y := by unfold cmpI; split <;> split <;> first | omega | (split <;> omega)
theorem cmpL_refl : ∀ xs : List Int, cmpL xs xs = 0
 | [] => rfl
 | x :: xs => by rw [cmpL, if_pos (cmpI_zero.2 rfl), cmpL_refl xs]
theorem cmpL_neg : ∀ xs ys : List Int, cmpL ys xs = - cmpL xs ys
 | [], [] => rfl
 | [], _ :: _ => rfl
 | _ :: _, [] => rfl
 | x :: xs, y :: ys => by
  rw [cmpL, cmpL, cmpI_neg x y, cmpL_neg xs ys]; by_cases h : cmpI x y = 0
  ·rw [if_pos h, if_pos (by omega)]
  rw [if_neg h, if_neg (by omega)]
theorem cmpL_zero : ∀ {xs ys : List Int}, cmpL xs ys = 0 → xs = ys
 | [], [], _ => rfl
 | [], _ :: _, h => by simp [cmpL] at h
 | _ :: _, [], h => by simp [cmpL] at h
 | x :: xs, y :: ys, h => by
  rw [cmpL] at h; split at h
  ·next h0 => rw [cmpI_zero.1 h0, cmpL_zero h]
  next h0 => exact absurd h h0
theorem cmpL_trans : ∀ {xs ys zs : List Int}, cmpL xs ys < 0 → cmpL ys zs < 0 → cmpL xs zs < 0
 | [], [], _, h, _ => by simp [cmpL] at h
 | [], _ :: _, [], _, h => by simp [cmpL] at h
 | [], _ :: _, _ :: _, _, _ => by simp [cmpL]
 | _ :: _, [], _, h, _ => by simp [cmpL] at h
 | _ :: _, _ :: _, [], _, h => by simp [cmpL] at h
 | x :: xs, y :: ys, z :: zs, h, k => by
  rw [cmpL] at h k ⊢; have a := cmpI_lt x y; have b := cmpI_lt y z; have c := cmpI_lt x z; by_cases h1 : cmpI x y = 0
  ·rw [if_pos h1] at h; by_cases h2 : cmpI y z = 0
   ·rw [if_pos h2] at k; rw [if_pos (by omega)]; exact cmpL_trans h k
   rw [if_neg h2] at k; rw [if_neg (by omega)]; omega
  rw [if_neg h1] at h; by_cases h2 : cmpI y z = 0
  ·rw [if_neg (by omega)]; omega
  rw [if_neg h2] at k; rw [if_neg (by omega)]; omega
theorem ordT_same (W H : Int) (xs ys : List Int) : ordT W H xs W H ys = cmpL xs ys := by
 unfold ordT orL; rw [if_pos (cmpI_zero.2 rfl), orL, if_pos (cmpI_zero.2 rfl), orL, orL]; split
 ·next h => exact h.symm
 rfl
theorem swo_of {α : Type} [Inhabited α] (cf : α → α → Int) (hn : ∀ x y, cf y x = - cf x y) (hz : ∀ x y z, cf x y = 0 → cf x z = cf y z ∧ cf z x = cf z y) (ht : ∀ x y z, cf x y < 0 → cf y z < 0 → cf x z < 0) : Go.Sort.SWO (ltOf cf) where
 irrefl x := by have := hn x x; unfold ltOf; simp; omega
 trans x y z h k := by unfold ltOf at *; simp at *; exact ht x y z h k
 ntrans x y z h k := by
  unfold ltOf at *; simp at *; by_cases h1 : cf x y = 0
  ·rw [(hz x y z h1).1]; exact k
  by_cases h2 : cf y z = 0
  ·rw [← (hz y z x h2).2]; exact h
  have := ht z y x (by rw [hn y z]; omega) (by rw [hn x y]; omega); rw [hn x z] at this; omega
theorem ord_neg (a b : Mv) : ordM b a = - ordM a b := by
 unfold ordM; have a1 := cmpI_neg a.t b.t; have a2 := cmpI_neg a.x b.x; have a3 := cmpI_neg a.y b.y
 have orl : ∀ (l m : List Int), m = l.map (fun x => -x) → orL m = - orL l := by
  intro l
  induction l with
  | nil => rintro m rfl; rfl
  | cons x l ih =>
   rintro m rfl; rw [List.map_cons, orL, orL, ih _ rfl]; by_cases h : x = 0
   ·rw [if_pos h, if_pos (by omega)]
   rw [if_neg h, if_neg (by omega)]
 refine orl _ _ ?_; simp only [List.map_cons, List.map_nil, a1, a2, a3]; congr 1
 cases a.f <;> cases b.f <;> simp
theorem ord_zero {a b : Mv} (h : ordM a b = 0) : a = b := by
 have h1 := ord_lt a b; have h2 := ord_lt b a; rw [ord_neg a b, h] at h2; rw [h] at h1; obtain ⟨ax, ay, at_, af⟩ := a; obtain ⟨bx, by_, bt, bf⟩ := b; simp only at h1 h2; cases af <;> cases bf <;> simp at h1 h2 ⊢ <;> omega
theorem ord_trans {a b c : Mv} (h : ordM a b < 0) (k : ordM b c < 0) : ordM a c < 0 := by
 rw [ord_lt] at *; obtain ⟨ax, ay, at_, af⟩ := a; obtain ⟨bx, by_, bt, bf⟩ := b; obtain ⟨cx, cy, ct, cf⟩ := c; simp only at h k ⊢; cases af <;> cases bf <;> cases cf <;> simp at h k ⊢ <;> omega
structure Sl where
 A : Option Addr
 k : Nat
 xs : List Int
instance : Inhabited Sl := ⟨⟨none, 0, []⟩⟩
def Sl.ok (w : World) (s : Sl) : Prop := CellsI w s.A s.xs ∧ s.xs.length ≤ 1000000
def encT (W H : Int) (s : Sl) : List Value := [.int .i64 W, .int .i64 H, .slice s.A s.xs.length s.k]
def encM (m : Mv) : List Value := [.int .i64 m.x, .int .i64 m.y, .int .i64 m.t, .bool m.f]
instance : Inhabited Mv := ⟨⟨0, 0, 0, false⟩⟩
theorem CellsI.ne {w : World} {A : Option Addr} {ys : List Int} {g : Nat} {t : TypeId} {us : List Value} (h : CellsI w A ys) (hb : Blk w g t us) (ht : t ≠ 3) : ∀ ad, A = some ad → ad.block ≠ g ∧ ad.block < w.heap.size := fun ad e => by
 obtain ⟨cur, hc⟩ := h.2 ad e; have hlt : ad.block < w.heap.size := (Array.getElem?_eq_some_iff.1 hc).1; refine ⟨fun e2 => ?_, hlt⟩; rw [e2] at hc; unfold Blk at hb; rw [hb] at hc; injection hc with hc
 injection hc with _ hc
 exact ht hc
theorem CellsI.by_ {w w' : World} {A : Option Addr} {ys : List Int} {g : Nat} (h : CellsI w A ys) (hg : w.grownBy w' (some g)) (hne : ∀ ad, A = some ad → ad.block ≠ g) : CellsI w' A ys := by
 have key : ∀ ad, A = some ad → w'.heap[ad.block]? = w.heap[ad.block]? := fun ad e => by
  obtain ⟨cur, hc⟩ := h.2 ad e; exact hg.block _ (Array.getElem?_eq_some_iff.1 hc).1 (fun e2 => hne ad e (Option.some.inj e2))
 refine ⟨fun hn => ?_, fun ad e => ?_⟩
 ·obtain ⟨ad, e, hc⟩ := h.1 hn; refine ⟨ad, e, fun j hj => ?_⟩; have hk : w'.cell? (ad.add j) = w.cell? (ad.add j) := World.cell?_of_block (by rw [block_of_add]; exact key ad e); rw [hk]; exact hc j hj
 obtain ⟨cur, hc⟩ := h.2 ad e; exact ⟨cur, (key ad e).trans hc⟩
section
variable {α : Type} [Inhabited α]
theorem perm_list {d d' : Array α} (h : Go.Sort.PermIn 0 d.size d d') : d'.toList.Perm d.toList := by
 have h2 := h.2.2; have e1 : d.extract 0 d.size = d := by simp
 have e2 : d'.extract 0 d.size = d' := by rw [← h.1]; simp
 rw [e1, e2] at h2; exact h2
theorem sorted_list {d d' : Array α} {lt : α → α → Bool} (h : Go.Sort.SortedIn lt 0 d.size d') (hs : d'.size = d.size) : d'.toList.Pairwise (fun a b => lt b a = false) := by
 rw [List.pairwise_iff_getElem]; intro i j hi hj hij; have h1 := h i j (Nat.zero_le _) hij (by simpa [hs] using hj); simp only [Array.length_toList] at hi hj; rw [getElem!_pos _ i hi, getElem!_pos _ j hj] at h1; simpa using h1
end
set_option maxRecDepth 100000 in
set_option maxHeartbeats 1000000 in
theorem sortT_calls (W H : Int) (g cap : Nat) (ts : List Sl) (rest : List Value) (w : World) (hb : Blk w g 43 (ts.flatMap (encT W H) ++ rest)) (hok : ∀ s ∈ ts, s.ok w) (hl : ts.length ≤ 1000000) :
  Calls Tryz.prog 88 #[.slice (some ⟨g, 0, none⟩) ts.length cap, .func (.func 32) #[] #[]] w fun e w' => e = .returned (.tuple #[]) ∧
   ∃ ts' : List Sl, ts'.Perm ts ∧ ts'.Pairwise (fun a b => cmpL a.xs b.xs ≤ 0) ∧ Blk w' g 43 (ts'.flatMap (encT W H) ++ rest) ∧ w.grownBy w' (some g) := by
 have hne : ∀ s : Sl, s.ok w → ∀ ad, s.A = some ad → ad.block ≠ g ∧ ad.block < w.heap.size := fun s hs => hs.1.ne hb (by decide)
 letI : Inhabited {s : Sl // s.ok w} := ⟨⟨⟨none, 0, []⟩, ⟨RI.nil _ _, fun ad e => by cases e⟩, by simp⟩⟩
 have hk : ∀ x : {s : Sl // s.ok w}, (encT W H x.1).length = 3 := fun _ => rfl
 let d : Array {s : Sl // s.ok w} := (ts.pmap Subtype.mk hok).toArray
 have hd : d.toList.map Subtype.val = ts := by
  show ((ts.pmap Subtype.mk hok).toArray.toList).map _ = _; rw [List.toList_toArray, List.map_pmap]; simp
 have hfl : ∀ d : Array {s : Sl // s.ok w}, d.toList.flatMap (fun x => encT W H x.1) = (d.toList.map Subtype.val).flatMap (encT W H) := fun d => by rw [List.flatMap_map]
 have hds : d.size = ts.length := by show (ts.pmap Subtype.mk hok).toArray.size = _; simp
 have hB : Blk w g 43 (d.toList.flatMap (fun x => encT W H x.1) ++ rest) := by rw [hfl, hd]; exact hb
 have hO : Go.Sort.SWO (ltOf (fun x y : {s : Sl // s.ok w} => cmpL x.1.xs y.1.xs)) := swo_of _ (fun x y => cmpL_neg _ _) (fun x y z h => by rw [cmpL_zero h]; exact ⟨rfl, rfl⟩) (fun x y z h k => cmpL_trans h k)
 have hcmp : CmpLays Tryz.prog 32 #[] (fun x : {s : Sl // s.ok w} => encT W H x.1) 3 (fun x y => cmpL x.1.xs y.1.xs) g 0 d.size w := by
  intro m os dk hdk x y; have hri : ∀ x : {s : Sl // s.ok w}, RI (sortWorldK (fun x : {s : Sl // s.ok w} => encT W H x.1) 3 w g 0 m dk os) x.1.A x.1.xs := fun x => (x.2.1.by_ grownBy_sortK (fun ad e => (hne _ x.2 ad e).1)).1
  have hx := x.2.2; have hy := y.2.2; have h := compare_x W H W H x.1.A y.1.A x.1.k y.1.k x.1.xs y.1.xs _ (hri x) (hri y) (by omega) (by omega); rw [ordT_same] at h; refine h.mono ?_; rintro e w' ⟨v, he, hbl, hv⟩; exact ⟨by rw [he, show v = _ from hv], hbl.grow⟩
 have h := AnyQ.slices_SortFunc Tryz.sortT 3 Tryz.isAgg43 Tryz.sizeOf43 (fun x : {s : Sl // s.ok w} => encT W H x.1) hk (fun x v hv => by
  unfold encT at hv; simp at hv
  rcases hv with rfl | rfl | rfl <;> rfl) (fun x y => cmpL x.1.xs y.1.xs) hO 32 #[] g 0 cap d w Tryz.call32 hcmp (holdsK_blk hk hB) hb.lt (by rw [hds]; omega)
 rw [hds] at h; refine Calls.mono h ?_; rintro e w' ⟨he, d', n, os, hp, hs, rfl⟩; rw [← hds] at hp hs; refine ⟨he, d'.toList.map Subtype.val, ?_, ?_, ?_, grownBy_sortK⟩
 ·rw [← hd]; exact (perm_list hp).map _
 ·rw [List.pairwise_map]; refine (sorted_list hs hp.1).imp (fun {a b} h => ?_); unfold ltOf at h; simp at h; rw [cmpL_neg]; omega
 rw [← hfl]; exact sorted_blk hk hB hp.1
set_option maxRecDepth 100000 in
set_option maxHeartbeats 1000000 in
theorem sortM_calls (g cap : Nat) (ms : List Mv) (rest : List Value) (w : World) (hb : Blk w g 65 (mcells ms ++ rest)) (hl : ms.length ≤ 1000000) :
  Calls Tryz.prog 54 #[.slice (some ⟨g, 0, none⟩) ms.length cap, .func (.func 55) #[] #[]] w fun e w' => e = .returned (.tuple #[]) ∧
   ∃ ms' : List Mv, ms'.Perm ms ∧ ms'.Pairwise (fun a b => ordM a b ≤ 0) ∧ Blk w' g 65 (mcells ms' ++ rest) ∧ w.grownBy w' (some g) := by
 have hk : ∀ x : Mv, (encM x).length = 4 := fun _ => rfl
 have hB : Blk w g 65 (ms.toArray.toList.flatMap encM ++ rest) := hb; have hO : Go.Sort.SWO (ltOf ordM) := swo_of _ ord_neg (fun x y z h => by rw [ord_zero h]; exact ⟨rfl, rfl⟩) (fun x y z h k => ord_trans h k)
 have hcmp : CmpLays Tryz.prog 55 #[] encM 4 ordM g 0 ms.toArray.size w := by
  intro m os dk hdk x y; refine (byOrder_x x y _).mono ?_; rintro e w' ⟨v, he, hbl, hv⟩; exact ⟨by rw [he, show v = _ from hv], hbl.grow⟩
 have h := AnyQ.slices_SortFunc Tryz.sortM 4 Tryz.isAgg65 Tryz.sizeOf65 encM hk (fun x v hv => by
  unfold encM at hv; simp at hv
  rcases hv with rfl | rfl | rfl | rfl <;> rfl) ordM hO 55 #[] g 0 cap ms.toArray w Tryz.call55 hcmp (holdsK_blk hk hB) hb.lt (by simp; omega)
 refine Calls.mono h ?_; rintro e w' ⟨he, d', n, os, hp, hs, rfl⟩; refine ⟨he, d'.toList, perm_list hp, ?_, sorted_blk hk hB hp.1, grownBy_sortK⟩; refine (sorted_list hs hp.1).imp (fun {a b} h => ?_); unfold ltOf at h; simp at h; rw [ord_neg]; omega
end Go.Proofs.YtddbmckbankmeaaGreat
