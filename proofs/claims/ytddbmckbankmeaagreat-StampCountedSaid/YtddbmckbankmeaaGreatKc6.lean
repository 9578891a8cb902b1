/- Part 6 of the texts behind this claim. -/
import Derived.Laws.StructEq
import Derived.OwnWalk
import Derived.WalkKit
import Derived.DataElems
import Derived.Shelf.SlSortCmp.NoneTotal
import Derived.Test.YtddbmckbankmeaaGreatProg
import Derived.Test.YtddbmckbankmeaaGreatKc1
import Derived.Test.YtddbmckbankmeaaGreatKc5
set_option linter.unusedVariables false
set_option linter.unusedSimpArgs false
namespace Go.Proofs.YtddbmckbankmeaaGreat
open Go.RowKit
theorem trn_add (f : Bool) (x y x' y' : Int) : ∀ n, trn f (x + x') (y + y') n = ((trn f x y n).1 + (trn f x' y' n).1, (trn f x y n).2 + (trn f x' y' n).2)
 | 0 => by cases f <;> simp [trn] <;> omega
 | n + 1 => by
  simp only [trn, trn_add f x y x' y' n, rot]; congr 1
  omega
theorem trn_zero (f : Bool) : ∀ n, trn f 0 0 n = (0, 0)
 | 0 => by cases f <;> rfl
 | n + 1 => by simp [trn, trn_zero f n, rot]
theorem trn_comp (f1 f2 : Bool) (x y : Int) {n1 n2 : Nat} (h1 : n1 < 4) (h2 : n2 < 4) :
  trn f1 (trn f2 x y n2).1 (trn f2 x y n2).2 n1 = trn (f1 != f2) x y ((n1 + if f1 = true then 4 - n2 else n2) % 4) := by
 have a1 : n1 = 0 ∨ n1 = 1 ∨ n1 = 2 ∨ n1 = 3 := by omega
 have a2 : n2 = 0 ∨ n2 = 1 ∨ n2 = 2 ∨ n2 = 3 := by omega
 rcases a1 with rfl | rfl | rfl | rfl <;> rcases a2 with rfl | rfl | rfl | rfl <;> cases f1 <;> cases f2 <;> simp [trn, rot]
theorem neg_mod {a b m : Int} (h : a % m = b % m) : (-a) % m = (-b) % m := by
 have h2 := Int.emod_emod_of_dvd a (Int.dvd_refl m); exact (Int.emod_emod_of_dvd _ (Int.dvd_refl m)).symm.trans (by rw [Int.emod_emod_of_dvd _ (Int.dvd_refl m), Int.neg_emod_eq_sub_emod, Int.neg_emod_eq_sub_emod, Int.sub_emod, h, ← Int.sub_emod])
theorem trn_mod (f : Bool) {x y x' y' W H : Int} (hx : x % W = x' % W) (hy : y % H = y' % H) {n : Nat} (hn : n < 4) (hp : n % 2 = 0 ∨ W = H) :
  (trn f x y n).1 % W = (trn f x' y' n).1 % W ∧ (trn f x y n).2 % H = (trn f x' y' n).2 % H := by
 have nx := neg_mod hx; have ny := neg_mod hy; have a : n = 0 ∨ n = 1 ∨ n = 2 ∨ n = 3 := by omega
 rcases a with rfl | rfl | rfl | rfl
 ·cases f <;> simp [trn, hx, hy, nx]
 ·rcases hp with hp | rfl
  ·omega
  cases f <;> simp [trn, rot, hx, hy, nx, ny]
 ·cases f <;> simp [trn, rot, hx, hy, nx, ny]
 rcases hp with hp | rfl
 ·omega
 cases f <;> simp [trn, rot, hx, hy, nx, ny]
structure Mv where
 x : Int
 y : Int
 t : Int
 f : Bool
structure Al (W H : Int) (m : Mv) : Prop where
 w : 1 ≤ W ∧ W ≤ 8
 h : 1 ≤ H ∧ H ≤ 8
 x : 0 ≤ m.x ∧ m.x < W
 y : 0 ≤ m.y ∧ m.y < H
 t : 0 ≤ m.t ∧ m.t < 4
 p : m.t % 2 = 0 ∨ W = H
theorem al_of {W H x y t : Int} {f : Bool} (h1 : sizeB W H = true) (h2 : alB W H x y t = true) : Al W H ⟨x, y, t, f⟩ := by
 obtain ⟨a, b, c, d, e⟩ := okm h1 h2; unfold alB at h2; simp only [Bool.and_eq_true, decide_eq_true_eq, Bool.or_eq_true] at h2; exact ⟨a, b, c, d, e, h2.2⟩
theorem Al.al {W H : Int} {m : Mv} (h : Al W H m) : alB W H m.x m.y m.t = true := by
 obtain ⟨a, b, c, d, e, g⟩ := h; unfold alB; simp only [Bool.and_eq_true, decide_eq_true_eq, Bool.or_eq_true]; exact ⟨⟨⟨⟨⟨⟨c.1, c.2⟩, d.1⟩, d.2⟩, e.1⟩, e.2⟩, g⟩
def act (W H : Int) (m : Mv) (p : Int × Int) : Int × Int := (((trn m.f p.1 p.2 m.t.toNat).1 + m.x) % W, ((trn m.f p.1 p.2 m.t.toNat).2 + m.y) % H)
def aftM (W H : Int) (m n : Mv) : Mv := ⟨(act W H m (n.x, n.y)).1, (act W H m (n.x, n.y)).2, (m.t + if m.f = true then 4 - n.t else n.t) % 4, m.f != n.f⟩
def invM (W H : Int) (m : Mv) : Mv := ⟨(ivp m.x m.y m.t m.f).1 % W, (ivp m.x m.y m.t m.f).2 % H, ivt m.t m.f, m.f⟩
section
variable {W H : Int} {m n q : Mv}
theorem act_lt (h : Al W H m) (p : Int × Int) : (0 ≤ (act W H m p).1 ∧ (act W H m p).1 < W) ∧ 0 ≤ (act W H m p).2 ∧ (act W H m p).2 < H := by
 have hw := h.w; have hh := h.h; exact ⟨⟨Int.emod_nonneg _ (by omega), Int.emod_lt_of_pos _ (by omega)⟩, Int.emod_nonneg _ (by omega), Int.emod_lt_of_pos _ (by omega)⟩
theorem aft_al (h : Al W H m) (k : Al W H n) : Al W H (aftM W H m n) := by
 have hp := act_lt h (n.x, n.y); have h1 := h.t; have h2 := h.p; have k1 := k.t; have k2 := k.p; refine ⟨h.w, h.h, hp.1, hp.2, ?_, ?_⟩
 ·show 0 ≤ (_ : Int) % 4 ∧ (_ : Int) % 4 < 4; omega
 show (m.t + if m.f = true then 4 - n.t else n.t) % 4 % 2 = 0 ∨ _; cases m.f <;> simp <;> omega
theorem inv_al (h : Al W H m) : Al W H (invM W H m) := by
 have hw := h.w; have hh := h.h; have h1 := h.t; have h2 := h.p; refine ⟨hw, hh, ⟨Int.emod_nonneg _ (by omega), Int.emod_lt_of_pos _ (by omega)⟩, ⟨Int.emod_nonneg _ (by omega), Int.emod_lt_of_pos _ (by omega)⟩, ?_, ?_⟩
 ·show 0 ≤ ivt m.t m.f ∧ ivt m.t m.f < 4; unfold ivt; cases m.f <;> simp <;> omega
 show ivt m.t m.f % 2 = 0 ∨ _; unfold ivt; cases m.f <;> simp <;> omega
theorem turn_nat (h : Al W H m) (k : Al W H n) : (aftM W H m n).t.toNat = (m.t.toNat + if m.f = true then 4 - n.t.toNat else n.t.toNat) % 4 := by
 have h1 := h.t; have k1 := k.t; show ((m.t + if m.f = true then 4 - n.t else n.t) % 4).toNat = _; cases m.f <;> simp <;> omega
theorem mod_add {a b c W : Int} (h : a % W = b % W) : (a + c) % W = (b + c) % W := by rw [Int.add_emod, h, ← Int.add_emod]
theorem act_mod (h : Al W H m) {x y x' y' : Int} (hx : x % W = x' % W) (hy : y % H = y' % H) : act W H m (x, y) = act W H m (x', y') := by
 have h1 := h.t; have h2 := h.p; have e := trn_mod m.f hx hy (n := m.t.toNat) (by omega) (by omega); unfold act; simp only; rw [mod_add e.1, mod_add e.2]
theorem act_comp (h : Al W H m) (k : Al W H n) (p : Int × Int) : act W H (aftM W H m n) p = act W H m (act W H n p) := by
 have h1 := h.t; have k1 := k.t; have e1 : act W H m (act W H n p) = act W H m ((trn n.f p.1 p.2 n.t.toNat).1 + n.x, (trn n.f p.1 p.2 n.t.toNat).2 + n.y) := act_mod h (by simp [act]) (by simp [act]); rw [e1]; unfold act; simp only; rw [turn_nat h k, trn_add, trn_comp m.f n.f _ _ (by omega) (by omega)]; show ((_ + ((_ + m.x) % W)) % W, (_ + ((_ + m.y) % H)) % H) = _; simp only [Int.add_emod_emod, Int.add_assoc]; rfl
theorem aft_assoc (h : Al W H m) (k : Al W H n) (l : Al W H q) : aftM W H (aftM W H m n) q = aftM W H m (aftM W H n q) := by
 have h1 := h.t; have k1 := k.t; have l1 := l.t; have e := act_comp h k (q.x, q.y)
 have e3 : (aftM W H (aftM W H m n) q).t = (aftM W H m (aftM W H n q)).t := by
  show ((m.t + if m.f = true then 4 - n.t else n.t) % 4 + if (m.f != n.f) = true then 4 - q.t else q.t) % 4 = (m.t + if m.f = true then 4 - (n.t + if n.f = true then 4 - q.t else q.t) % 4 else (n.t + if n.f = true then 4 - q.t else q.t) % 4) % 4; cases m.f <;> cases n.f <;> simp <;> omega
 have e4 : (aftM W H (aftM W H m n) q).f = (aftM W H m (aftM W H n q)).f := by
  show ((m.f != n.f) != q.f) = (m.f != (n.f != q.f)); cases m.f <;> cases n.f <;> cases q.f <;> rfl
 have e5 : (act W H m ((aftM W H n q).x, (aftM W H n q).y)) = act W H m (act W H n (q.x, q.y)) := rfl; unfold aftM at e3 e4 e5 ⊢; simp only at e3 e4 e5 ⊢; rw [e3, e4]; congr 1
 ·exact congrArg Prod.fst e
 exact congrArg Prod.snd e
theorem inv_one (h : Al W H m) : aftM W H (invM W H m) m = ⟨0, 0, 0, false⟩ := by
 have h1 := h.t
 have hz : act W H (invM W H m) (m.x, m.y) = (0, 0) := by
  unfold act; show (((trn m.f m.x m.y (ivt m.t m.f).toNat).1 + (trn m.f (-m.x) (-m.y) (ivt m.t m.f).toNat).1 % W) % W, ((trn m.f m.x m.y (ivt m.t m.f).toNat).2 + (trn m.f (-m.x) (-m.y) (ivt m.t m.f).toNat).2 % H) % H) = _; have e := trn_add m.f m.x m.y (-m.x) (-m.y) (ivt m.t m.f).toNat; rw [Int.add_right_neg, Int.add_right_neg, trn_zero, Prod.mk.injEq] at e; rw [Int.add_emod_emod, Int.add_emod_emod, ← e.1, ← e.2]; simp
 have ht : ((invM W H m).t + if (invM W H m).f = true then 4 - m.t else m.t) % 4 = 0 := by
  show (ivt m.t m.f + if m.f = true then 4 - m.t else m.t) % 4 = 0; unfold ivt; cases m.f <;> simp <;> omega
 have hf : ((invM W H m).f != m.f) = false := by
  show (m.f != m.f) = false; cases m.f <;> rfl
 unfold aftM; rw [hz, ht, hf]
theorem inv_two (h : Al W H m) : aftM W H m (invM W H m) = ⟨0, 0, 0, false⟩ := by
 have h1 := h.t; have hi : 0 ≤ ivt m.t m.f ∧ ivt m.t m.f < 4 := (inv_al h).t
 have hz : act W H m ((invM W H m).x, (invM W H m).y) = (0, 0) := by
  have e1 : act W H m ((invM W H m).x, (invM W H m).y) = act W H m ((ivp m.x m.y m.t m.f).1, (ivp m.x m.y m.t m.f).2) := act_mod h (by simp [invM]) (by simp [invM]); rw [e1]
  have hk : (m.t.toNat + if m.f = true then 4 - (ivt m.t m.f).toNat else (ivt m.t m.f).toNat) % 4 = 0 := by
   unfold ivt at hi ⊢; cases m.f <;> simp at hi ⊢ <;> omega
  have e2 : trn m.f (ivp m.x m.y m.t m.f).1 (ivp m.x m.y m.t m.f).2 m.t.toNat = (-m.x, -m.y) := by
   unfold ivp; rw [trn_comp m.f m.f _ _ (by omega) (by omega), hk]; cases m.f <;> rfl
  unfold act; simp only; rw [e2]; simp [Int.add_left_neg]
 have ht : (m.t + if m.f = true then 4 - (invM W H m).t else (invM W H m).t) % 4 = 0 := by
  show (m.t + if m.f = true then 4 - ivt m.t m.f else ivt m.t m.f) % 4 = 0; unfold ivt; cases m.f <;> simp <;> omega
 have hf : (m.f != (invM W H m).f) = false := by
  show (m.f != m.f) = false; cases m.f <;> rfl
 unfold aftM; rw [hz, ht, hf]
def cellM (W H : Int) (m : Mv) (i : Int) : Int := toC W H m.x m.y m.t m.f i
theorem cell_act (i : Int) : cellM W H m i = (act W H m (i % W, i / W)).2 * W + (act W H m (i % W, i / W)).1 := rfl
theorem cell_lt (h : Al W H m) (i : Int) : 0 ≤ cellM W H m i ∧ cellM W H m i < W * H := toC_lt m.f ⟨h.w, h.h, h.x, h.y, h.t⟩
theorem split_mod {u v : Int} (hu : 0 ≤ u ∧ u < W) : (v * W + u) % W = u ∧ (v * W + u) / W = v := by
 refine ⟨?_, ?_⟩
 ·rw [Int.add_comm, Int.add_mul_emod_self_right, Int.emod_eq_of_lt hu.1 hu.2]
 rw [Int.add_comm, Int.add_mul_ediv_right _ _ (by omega), Int.ediv_eq_zero_of_lt hu.1 hu.2, Int.zero_add]
theorem cell_comp (h : Al W H m) (k : Al W H n) (i : Int) : cellM W H (aftM W H m n) i = cellM W H m (cellM W H n i) := by
 have hu := split_mod (v := (act W H n (i % W, i / W)).2) (act_lt k (i % W, i / W)).1; rw [cell_act, act_comp h k, cell_act (m := m), cell_act (m := n), hu.1, hu.2]
theorem cell_zero (h1 : 1 ≤ W) (h2 : 1 ≤ H) {i : Int} (hi : 0 ≤ i ∧ i < W * H) : cellM W H ⟨0, 0, 0, false⟩ i = i := by
 have a : i / W < H := Int.ediv_lt_of_lt_mul (by omega) (by rw [Int.mul_comm H W]; exact hi.2); have b : 0 ≤ i / W := Int.ediv_nonneg hi.1 (by omega); show (i / W + 0) % H * W + (i % W + 0) % W = i; rw [Int.add_zero, Int.add_zero, Int.emod_eq_of_lt b a, Int.emod_emod_of_dvd _ (Int.dvd_refl W)]; have := Int.mul_ediv_add_emod i W; rw [Int.mul_comm]; exact this
theorem inv_cell (h : Al W H m) {i : Int} (hi : 0 ≤ i ∧ i < W * H) : cellM W H (invM W H m) (cellM W H m i) = i := by
 rw [← cell_comp (inv_al h) h, inv_one h, cell_zero h.w.1 h.h.1 hi]
theorem cell_inv (h : Al W H m) {i : Int} (hi : 0 ≤ i ∧ i < W * H) : cellM W H m (cellM W H (invM W H m) i) = i := by
 rw [← cell_comp h (inv_al h), inv_two h, cell_zero h.w.1 h.h.1 hi]
end
def apM (W H : Int) (m : Mv) (xs : List Int) : List Int := apL W H m.x m.y m.t m.f xs
theorem apS_at (ft : Int → Int) (xs : List Int) : ∀ (k : Nat), (∀ j : Nat, j < k → 0 ≤ ft j ∧ ft j < xs.length) → (∀ i j : Nat, i < k → j < k → ft i = ft j → i = j) → ∀ j : Nat, j < k → (apS ft xs k).getD (ft j).toNat 0 = xs.getD j 0
 | 0, _, _ => fun j hj => by omega
 | k + 1, hr, hi => fun j hj => by
  have hk := hr k (by omega); have hj' := hr j hj; simp only [apS]; by_cases e : j = k
  ·subst e; rw [List.getD_eq_getElem?_getD, List.getElem?_set_self (by rw [apS_length]; omega)]; rfl
  have hne : (ft k).toNat ≠ (ft j).toNat := fun e2 => e (hi j k hj (by omega) (by omega))
  rw [List.getD_eq_getElem?_getD, List.getElem?_set_ne hne, ← List.getD_eq_getElem?_getD]; exact apS_at ft xs k (fun j hj => hr j (by omega)) (fun i j h1 h2 => hi i j (by omega) (by omega)) j (by omega)
theorem apM_length (W H : Int) (m : Mv) (xs : List Int) : (apM W H m xs).length = xs.length := apS_length _ _ _
theorem apM_at {W H : Int} {m : Mv} {xs : List Int} (h : Al W H m) (hl : (xs.length : Int) = W * H) {j : Int} (hj : 0 ≤ j ∧ j < W * H) : (apM W H m xs).getD (cellM W H m j).toNat 0 = xs.getD j.toNat 0 := by
 obtain ⟨J, rfl⟩ : ∃ J : Nat, j = J := ⟨j.toNat, by omega⟩; rw [Int.toNat_natCast]; refine apS_at (fun q => toC W H m.x m.y m.t m.f q) xs xs.length (fun j hj => by rw [hl]; exact cell_lt h j) (fun i j h1 h2 e => ?_) J (by omega); have e1 := inv_cell h (i := (i : Int)) (by omega); have e2 := inv_cell h (i := (j : Int)) (by omega); have e3 : cellM W H m (i : Int) = cellM W H m (j : Int) := e; rw [e3, e2] at e1; omega
theorem apM_comp {W H : Int} {m n : Mv} {xs : List Int} (h : Al W H m) (k : Al W H n) (hl : (xs.length : Int) = W * H) : apM W H m (apM W H n xs) = apM W H (aftM W H m n) xs := by
 have hq := aft_al h k
 have key : ∀ i : Nat, i < xs.length → (apM W H m (apM W H n xs)).getD i 0 = (apM W H (aftM W H m n) xs).getD i 0 := by
  intro i hi; have hi' : 0 ≤ (i : Int) ∧ (i : Int) < W * H := by omega
  have hj := cell_lt (inv_al hq) (i : Int); have e := cell_inv hq hi'; have e1 := apM_at hq hl hj; rw [e, Int.toNat_natCast] at e1; rw [e1]; have e2 := apM_at k hl hj; have e3 := apM_at (xs := apM W H n xs) h (by rw [apM_length]; exact hl) (cell_lt k (cellM W H (invM W H (aftM W H m n)) (i : Int))); rw [← cell_comp h k, e, Int.toNat_natCast] at e3; rw [e3, e2]
 apply List.ext_getElem
 ·rw [apM_length, apM_length, apM_length]
 intro i h1 h2; have h3 : i < xs.length := by rw [apM_length] at h2; exact h2
 have := key i h3; rw [List.getD_eq_getElem?_getD, List.getD_eq_getElem?_getD, List.getElem?_eq_getElem h1, List.getElem?_eq_getElem h2] at this; exact this
section
variable {o : Oper} {a : Act} {x y : Operand} {ty : TypeId} {i j t : Int} {f : Bool}
end
section
variable {W H : Int} {m n : Mv} {xs : List Int}
theorem Al.size (h : Al W H m) : sizeB W H = true := by
 have h1 := h.w; have h2 := h.h; unfold sizeB; simp only [Bool.and_eq_true, decide_eq_true_eq]; exact ⟨h1, h2⟩
end
section
variable {o : Oper} {a : Act} {x y : Operand} {ty : TypeId} {w : World}
def bo (q : Nat) : Bool := decide (q = 1)
theorem sto_B {g off : Nat} {t : TypeId} {us : List Value} {v : Value} {b : Bool} (h : Blk w g t us) (hv : us[off]? = some v) : (Instr.storeAt 4 (.pointer (some ⟨g, off, none⟩)) (.bool b)).run Tryz.prog w = .ok () (putL w g off [.bool b]) := by
 have h0 := (h.cell off).trans hv; have f0 := h.frozen off; simp only [putL]; simp [go_sem, h0, f0]
end
def mcells (ms : List Mv) : List Value := ms.flatMap fun m => [.int .i64 m.x, .int .i64 m.y, .int .i64 m.t, .bool m.f]
theorem mcells_add (ms : List Mv) (m : Mv) : mcells (ms ++ [m]) = mcells ms ++ [.int .i64 m.x, .int .i64 m.y, .int .i64 m.t, .bool m.f] := by simp [mcells]
def mvs4 (W H : Nat) (f : Bool) (t x : Nat) : Nat → List Mv
 | 0 => []
 | n + 1 => mvs4 W H f t x n ++ if alB W H x n t = true then [⟨x, n, t, f⟩] else []
def mvs3 (W H : Nat) (f : Bool) (t : Nat) : Nat → List Mv
 | 0 => []
 | n + 1 => mvs3 W H f t n ++ mvs4 W H f t n H
def mvs2 (W H : Nat) (f : Bool) : Nat → List Mv
 | 0 => []
 | n + 1 => mvs2 W H f n ++ mvs3 W H f n W
def mvs1 (W H : Nat) : Nat → List Mv
 | 0 => []
 | n + 1 => mvs1 W H n ++ mvs2 W H (bo n) 4
theorem len4 (W H : Nat) (f : Bool) (t x : Nat) : ∀ n, (mvs4 W H f t x n).length ≤ n
 | 0 => Nat.le_refl _
 | n + 1 => by
  have := len4 W H f t x n; simp only [mvs4, List.length_append]; split <;> simp <;> omega
theorem len3 (W H : Nat) (hH : H ≤ 8) (f : Bool) (t : Nat) : ∀ n, (mvs3 W H f t n).length ≤ 8 * n
 | 0 => Nat.le_refl _
 | n + 1 => by
  have := len3 W H hH f t n; have := len4 W H f t n H; simp only [mvs3, List.length_append]; omega
theorem len2 (W H : Nat) (hW : W ≤ 8) (hH : H ≤ 8) (f : Bool) : ∀ n, (mvs2 W H f n).length ≤ 64 * n
 | 0 => Nat.le_refl _
 | n + 1 => by
  have := len2 W H hW hH f n; have := len3 W H hH f n W; simp only [mvs2, List.length_append]; omega
theorem len1 (W H : Nat) (hW : W ≤ 8) (hH : H ≤ 8) : ∀ n, (mvs1 W H n).length ≤ 256 * n
 | 0 => Nat.le_refl _
 | n + 1 => by
  have := len1 W H hW hH n; have := len2 W H hW hH (bo n) 4; simp only [mvs1, List.length_append]; omega
theorem mem4 (W H : Nat) (f : Bool) (t x : Nat) (m : Mv) : ∀ n, m ∈ mvs4 W H f t x n ↔ ∃ y, y < n ∧ m = ⟨x, y, t, f⟩ ∧ alB W H x y t = true
 | 0 => by simp [mvs4]
 | n + 1 => by
  simp only [mvs4, List.mem_append, mem4 W H f t x m n]; constructor
  ·rintro (⟨y, h1, h2, h3⟩ | h)
   ·exact ⟨y, by omega, h2, h3⟩
   split at h
   ·next ha => exact ⟨n, by omega, List.mem_singleton.1 h, ha⟩
   cases h
  rintro ⟨y, h1, h2, h3⟩; by_cases e : y = n
  ·subst e; right
   rw [if_pos h3]; exact List.mem_singleton.2 h2
  exact .inl ⟨y, by omega, h2, h3⟩
theorem mem3 (W H : Nat) (f : Bool) (t : Nat) (m : Mv) : ∀ n, m ∈ mvs3 W H f t n ↔ ∃ x, x < n ∧ m ∈ mvs4 W H f t x H
 | 0 => by simp [mvs3]
 | n + 1 => by
  simp only [mvs3, List.mem_append, mem3 W H f t m n]; constructor
  ·rintro (⟨y, h1, h2⟩ | h)
   ·exact ⟨y, by omega, h2⟩
   exact ⟨n, by omega, h⟩
  rintro ⟨y, h1, h2⟩; by_cases e : y = n
  ·subst e; exact .inr h2
  exact .inl ⟨y, by omega, h2⟩
theorem mem2 (W H : Nat) (f : Bool) (m : Mv) : ∀ n, m ∈ mvs2 W H f n ↔ ∃ x, x < n ∧ m ∈ mvs3 W H f x W
 | 0 => by simp [mvs2]
 | n + 1 => by
  simp only [mvs2, List.mem_append, mem2 W H f m n]; constructor
  ·rintro (⟨y, h1, h2⟩ | h)
   ·exact ⟨y, by omega, h2⟩
   exact ⟨n, by omega, h⟩
  rintro ⟨y, h1, h2⟩; by_cases e : y = n
  ·subst e; exact .inr h2
  exact .inl ⟨y, by omega, h2⟩
theorem mem1 (W H : Nat) (m : Mv) : ∀ n, m ∈ mvs1 W H n ↔ ∃ x, x < n ∧ m ∈ mvs2 W H (bo x) 4
 | 0 => by simp [mvs1]
 | n + 1 => by
  simp only [mvs1, List.mem_append, mem1 W H m n]; constructor
  ·rintro (⟨y, h1, h2⟩ | h)
   ·exact ⟨y, by omega, h2⟩
   exact ⟨n, by omega, h⟩
  rintro ⟨y, h1, h2⟩; by_cases e : y = n
  ·subst e; exact .inr h2
  exact .inl ⟨y, by omega, h2⟩
theorem mem_moves {W H : Nat} (hs : sizeB W H = true) (m : Mv) : m ∈ mvs1 W H 2 ↔ Al W H m := by
 simp only [mem1, mem2, mem3, mem4]; constructor
 ·rintro ⟨q, hq, t, ht, x, hx, y, hy, rfl, ha⟩; exact al_of hs ha
 intro h; have h1 := h.x; have h2 := h.y; have h3 := h.t; have ha := h.al; refine ⟨if m.f = true then 1 else 0, by split <;> omega, m.t.toNat, by omega, m.x.toNat, by omega, m.y.toNat, by omega, ?_, ?_⟩
 ·obtain ⟨x, y, t, f⟩ := m; simp only at h1 h2 h3; have e1 : ((x.toNat : Nat) : Int) = x := by omega
  have e2 : ((y.toNat : Nat) : Int) = y := by omega
  have e3 : ((t.toNat : Nat) : Int) = t := by omega
  simp only [e1, e2, e3]; cases f <;> rfl
 have e1 : ((m.x.toNat : Nat) : Int) = m.x := by omega
 have e2 : ((m.y.toNat : Nat) : Int) = m.y := by omega
 have e3 : ((m.t.toNat : Nat) : Int) = m.t := by omega
 rw [e1, e2, e3]; exact ha
section
variable {w w' : World} {base size n g o : Nat} {e : TypeId} {v : Value} {xs vs : List Value}
theorem own_to (h : w.ownsRow base e size v n xs) (hb : Below w.heap.size w w') : w'.ownsRow base e size v n xs :=
 h.kept (row := none) ⟨hb.os, hb.tape, hb.output, hb.size, fun k hk _ => hb.block k hk⟩ (by cases v.ownBlock <;> simp)
theorem own_put (hlt : ∀ k, v.ownBlock = some k → k < g) (h : w.ownsRow base e size v n xs) : (putL w g o vs).ownsRow base e size v n xs := by
 refine ⟨h.1, ?_⟩; rcases h.2 with hn | ⟨g', cap, cur, rfl, hb, hgg, rest⟩
 ·exact .inl hn
 refine .inr ⟨g', cap, cur, rfl, hb, ?_, rest⟩; rw [(putL_below (Nat.le_refl g) vs w o (Below.refl g w)).block g' (hlt g' rfl)]; exact hgg
end
theorem Tryz.info_rmove : (Tryz.prog.info? 56).map (fun i => (i.zero, i.size, i.bytes)) = some (some (.agg #[.int .i64 0, .int .i64 0, .int .i64 0, .bool false]), 4, 32) := by kernel_rfl
def OwnM (lo : Nat) (w : World) (v : Value) (ms : List Mv) : Prop := w.ownsRow lo 56 4 v ms.length (mcells ms)
section
variable {lo g o : Nat} {w w' : World} {v : Value} {ms : List Mv} {vs : List Value}
theorem OwnM.to (h : OwnM lo w v ms) (hb : Below w.heap.size w w') : OwnM lo w' v ms := own_to h hb
theorem OwnM.put (h : OwnM lo w v ms) (hlt : ∀ k, v.ownBlock = some k → k < g) : OwnM lo (putL w g o vs) v ms := own_put hlt h
theorem OwnM.lt (h : OwnM lo w v ms) : ∀ k, v.ownBlock = some k → lo ≤ k ∧ k < w.heap.size := World.ownsRow.lt h
end
section
variable {W H : Int} {m n : Mv}
end
theorem mcells_at : ∀ {ms : List Mv} {j : Nat} {m : Mv}, ms[j]? = some m → (mcells ms)[j * 4]? = some (.int .i64 m.x) ∧ (mcells ms)[j * 4 + 1]? = some (.int .i64 m.y) ∧ (mcells ms)[j * 4 + 2]? = some (.int .i64 m.t) ∧ (mcells ms)[j * 4 + 3]? = some (.bool m.f)
 | [], j, m, h => by simp at h
 | n :: ms, 0, m, h => by
  simp only [List.getElem?_cons_zero, Option.some.injEq] at h; subst h; exact ⟨rfl, rfl, rfl, rfl⟩
 | n :: ms, j + 1, m, h => by
  rw [List.getElem?_cons_succ] at h; have ih := mcells_at h; have e : mcells (n :: ms) = [.int .i64 n.x, .int .i64 n.y, .int .i64 n.t, .bool n.f] ++ mcells ms := rfl
  have key : ∀ c, (mcells (n :: ms))[(j + 1) * 4 + c]? = (mcells ms)[j * 4 + c]? := by
   intro c; rw [e, List.getElem?_append_right (by simp; omega)]; congr 1
   simp; omega
  exact ⟨(key 0).trans ih.1, (key 1).trans ih.2.1, (key 2).trans ih.2.2.1, (key 3).trans ih.2.2.2⟩
section
variable {lo lo' g k j : Nat} {w w' : World} {v : Value} {ms : List Mv} {m : Mv}
theorem Env.front : ∀ {L L' : List Ent}, Env w (L ++ L') → Env w L
 | [], _, _ => trivial
 | e :: L, L', ⟨h1, h2, h3⟩ => ⟨h1, fun e' he => h2 e' (List.mem_append_left _ he), Env.front h3⟩
end
section
variable {Q : Exit → Act → World → Prop} {o : Oper} {a : Act} {w : World} {d g off j n k lo : Nat} {x y : Operand} {ty : TypeId} {m m' : Mv} {ms : List Mv} {P : Program}
end
def RdM (w : World) (A : Option Addr) (ms : List Mv) : Prop := ∀ (j : Nat) (m : Mv), ms[j]? = some m → ∃ ad, A = some ad ∧ w.cell? (ad.add (j * 4)) = some (.int .i64 m.x) ∧ w.cell? ((ad.add (j * 4)).add 1) = some (.int .i64 m.y) ∧ w.cell? ((ad.add (j * 4)).add 2) = some (.int .i64 m.t) ∧ w.cell? ((ad.add (j * 4)).add 3) = some (.bool m.f)
section
variable {w w' : World} {A : Option Addr} {ad : Addr} {ms : List Mv} {m : Mv} {lo lo' g k j n : Nat} {v : Value} {vs : List Value} {o : Nat}
theorem RdM.to (h : RdM w A ms) (hb : Below w.heap.size w w') : RdM w' A ms := fun j m hj => by
 obtain ⟨ad, e, h0, h1, h2, h3⟩ := h j m hj; have key : ∀ {p : Addr} {u : Value}, w.cell? p = some u → w'.cell? p = some u := fun {p u} hp => (hb.cell (World.block_lt_of_cell? w _ hp)).trans hp
 exact ⟨ad, e, key h0, key h1, key h2, key h3⟩
theorem RdM.at_ (h : RdM w (some ad) ms) (hj : ms[j]? = some m) : w.cell? (ad.add (j * 4)) = some (.int .i64 m.x) ∧ w.cell? ((ad.add (j * 4)).add 1) = some (.int .i64 m.y) ∧ w.cell? ((ad.add (j * 4)).add 2) = some (.int .i64 m.t) ∧ w.cell? ((ad.add (j * 4)).add 3) = some (.bool m.f) := by
 obtain ⟨ad', e, h⟩ := h j m hj; cases e
 exact h
theorem RdM.some_ (h : RdM w A ms) (hj : ms[j]? = some m) : ∃ ad, A = some ad := let ⟨ad, e, _⟩ := h j m hj; ⟨ad, e⟩
def OwnS (lo : Nat) (w : World) (v : Value) (ms : List Mv) : Prop := w.ownsRow lo 65 4 v ms.length (mcells ms)
theorem OwnS.to (h : OwnS lo w v ms) (hb : Below w.heap.size w w') : OwnS lo w' v ms := own_to h hb
theorem OwnS.put (h : OwnS lo w v ms) (hlt : ∀ k, v.ownBlock = some k → k < g) : OwnS lo (putL w g o vs) v ms := own_put hlt h
theorem OwnS.lt (h : OwnS lo w v ms) : ∀ k, v.ownBlock = some k → lo ≤ k ∧ k < w.heap.size := World.ownsRow.lt h
theorem row_reads {e : TypeId} (h : w.ownsRow lo e 4 v ms.length (mcells ms)) : ∃ A k, v = .slice A ms.length k ∧ RdM w A ms ∧ ms.length ≤ k ∧ (A = none → k = 0) ∧ (∀ ad, A = some ad → lo ≤ ad.block) := by
 have h' := h; rcases h.2 with ⟨rfl, hn⟩ | ⟨g', cap, cur, rfl, hlo, hgg, hnc, _⟩
 ·refine ⟨none, 0, by rw [hn], fun j m hj => ?_, by omega, fun _ => rfl, fun ad e => by cases e⟩; have : ms = [] := List.eq_nil_of_length_eq_zero hn; rw [this] at hj; cases hj
 refine ⟨_, cap, rfl, fun j m hj => ⟨_, rfl, ?_⟩, hnc, fun e => by (cases e), fun ad e => by (cases e; exact hlo)⟩; have hc := World.ownsRow.cells h' (g := g') rfl; have hm := mcells_at hj; have ha : ∀ q : Nat, (⟨g', 0, none⟩ : Addr).add q = ⟨g', q, none⟩ := fun q => by unfold Addr.add; split <;> simp_all
 rw [Addr.add_add, Addr.add_add, Addr.add_add]; exact ⟨hc _ _ hm.1, hc _ _ hm.2.1, hc _ _ hm.2.2.1, hc _ _ hm.2.2.2⟩
def isSs (lo : Nat) (ms : List Mv) : SP := ⟨fun v w => OwnS lo w v ms, fun v w w' h hb => h.to hb⟩
end
section
variable {Q : Exit → Act → World → Prop} {o : Oper} {a : Act} {w : World} {d j n k : Nat} {x y : Operand} {m : Mv} {ad : Addr} {A : Option Addr}
theorem op_asgE {P : Program} {y : Operand} {v : Value} (ho : o.op = .assign y) (hx : a.eval y = v) (w : World) : (execOp a.eval o).run P w = .ok (.value v) w := by
 unfold execOp; simp only [ho, hx, Sem.run_pure]
theorem op_idxVN (h1 : j < n) (ho : o.op = .indexAddr 22 x y) (hx : a.eval x = .slice (some ad) n k) (hy : a.eval y = .int .i64 (j : Int)) (w : World) : (execOp a.eval o).run Tryz.prog w = .ok (.value (.pointer (some (ad.add (j * 4))))) w := by
 generalize a.eval = ev at hx hy ⊢; unfold execOp; simp only [ho, hx, hy]; simp [go_sem, h1]
theorem op_ldvVN {p : Addr} (ho : o.op = .load 56 x) (hd : o.dst = some d) (hx : a.eval x = .pointer (some p))
  (h : w.cell? p = some (.int .i64 m.x) ∧ w.cell? (p.add 1) = some (.int .i64 m.y) ∧ w.cell? (p.add 2) = some (.int .i64 m.t) ∧ w.cell? (p.add 3) = some (.bool m.f)) :
  o.wp Tryz.prog a w (Post a w d (isV (.agg #[.int .i64 m.x, .int .i64 m.y, .int .i64 m.t, .bool m.f])).p) Q := by
 obtain ⟨h0, h1, h2, h3⟩ := h; simp only [Addr.add_succ'] at h1 h2 h3; refine op_load (v := .agg #[.int .i64 m.x, .int .i64 m.y, .int .i64 m.t, .bool m.f]) ho hd hx ?_ rfl; simp [go_sem, h0, h1, h2, h3]
theorem op_lenvVN (ho : o.op = .call { callee := .builtin .len, args := #[x], argTypes := #[22] }) (hd : o.dst = some d) (hx : a.eval x = .slice A n k) : o.wp Tryz.prog a w (Post a w d (isV (.int .i64 ((n : Nat) : Int))).p) Q := by
 refine op_run (v := .int .i64 (n : Int)) hd ?_ rfl; generalize a.eval = ev at hx ⊢; unfold execOp; simp only [ho]; simp [go_sem, hx]
theorem op_idxVM (h1 : j < n) (ho : o.op = .indexAddr 29 x y) (hx : a.eval x = .slice (some ad) n k) (hy : a.eval y = .int .i64 (j : Int)) (w : World) : (execOp a.eval o).run Tryz.prog w = .ok (.value (.pointer (some (ad.add (j * 4))))) w := by
 generalize a.eval = ev at hx hy ⊢; unfold execOp; simp only [ho, hx, hy]; simp [go_sem, h1]
theorem op_ldvVM {p : Addr} (ho : o.op = .load 65 x) (hd : o.dst = some d) (hx : a.eval x = .pointer (some p))
  (h : w.cell? p = some (.int .i64 m.x) ∧ w.cell? (p.add 1) = some (.int .i64 m.y) ∧ w.cell? (p.add 2) = some (.int .i64 m.t) ∧ w.cell? (p.add 3) = some (.bool m.f)) :
  o.wp Tryz.prog a w (Post a w d (isV (.agg #[.int .i64 m.x, .int .i64 m.y, .int .i64 m.t, .bool m.f])).p) Q := by
 obtain ⟨h0, h1, h2, h3⟩ := h; simp only [Addr.add_succ'] at h1 h2 h3; refine op_load (v := .agg #[.int .i64 m.x, .int .i64 m.y, .int .i64 m.t, .bool m.f]) ho hd hx ?_ rfl; simp [go_sem, h0, h1, h2, h3]
theorem op_lenvVM (ho : o.op = .call { callee := .builtin .len, args := #[x], argTypes := #[29] }) (hd : o.dst = some d) (hx : a.eval x = .slice A n k) : o.wp Tryz.prog a w (Post a w d (isV (.int .i64 ((n : Nat) : Int))).p) Q := by
 refine op_run (v := .int .i64 (n : Int)) hd ?_ rfl; generalize a.eval = ev at hx ⊢; unfold execOp; simp only [ho]; simp [go_sem, hx]
end
theorem Tryz.info_smove : (Tryz.prog.info? 65).map (fun i => (i.zero, i.size, i.bytes)) = some (some (.agg #[.int .i64 0, .int .i64 0, .int .i64 0, .bool false]), 4, 32) := by kernel_rfl
set_option maxRecDepth 100000 in
set_option maxHeartbeats 1000000 in
theorem moves_got (A : Option Addr) (k : Nat) (ms : List Mv) (w : World) (hrm : RdM w A ms) (hln : ms.length ≤ 9223372036854775807) :
  Calls Tryz.prog 6 #[.slice A ms.length k] w (Got w (isSs w.heap.size (ms.take 521)).p) := by
 have HRM := Hd.mk hrm; clear hrm; go_enter Tryz.func6, Tryz.ntmps6
 go_upto_region 2 with fail
 have HE : Hd (Env w []) := ⟨trivial⟩; have HB : Hd (Below w.heap.size w w) := ⟨Below.refl _ _⟩; refine wp_region_vd 3 [6, 7, 8] [0, 2] [] 63 [.int .i64 0, .int .i64 0] [isV (.slice A ms.length k), qI ((ms.length : Nat) : Int), qI 0] (by rfl) alloc_Z ?_ ?_
 ·intro qi qh qA aa wx hb hs hd
  match qi, qh, qA with
  | 0, _, _ => exact aL (op_mv rfl (hs 0 rfl)) | 1, _, _ => exact aL (op_lenvVN rfl rfl (hd 0 rfl)) | 2, _, _ => exact aL (op_mv rfl rfl) | qi + 3, h, _ => omega
 intro vs X1 hb hv hal hne; replace HB := Hd.mk (bel_then HB.out hb); replace HE := Hd.mk (HE.out.to hb); have e6 : vs 6 = .slice A ms.length k := hv 0 (by decide) rfl; have e7 : vs 7 = .int .i64 (((ms.length : Nat) : Int)) := hv 1 (by decide) rfl; have e8 : vs 8 = .int .i64 0 := hv 2 (by decide) rfl; simp only [PA, e6, e7, e8]; clear hv hal hne hb e6 e7 e8; have HO : Hd (OwnS w.heap.size X1 (.slice none 0 0) []) := ⟨World.ownsRow_nil _ _ _ _⟩; go_wp2_with fail
 go_loopw [3, 8] (fun s3 s8 wr => ∃ j : Nat, j ≤ ms.length ∧ j ≤ 521 ∧ s8 = .int .i64 j ∧ OwnS w.heap.size wr s3 (ms.take j) ∧ Below w.heap.size w wr) (fun _ s8 _ => ms.length - (intOf s8).toNat)
 case atStart => exact ⟨0, Nat.zero_le _, by omega, rfl, HO.out, HB.out⟩
 case round =>
  obtain ⟨j, hjl, hj5, rfl, ho, hb⟩ := hrel; clear HB HE HO; have HB := Hd.mk hb; have HO := Hd.mk ho; have HE : Hd (Env wr []) := ⟨trivial⟩; clear ho hb; by_cases hj : j < ms.length
  ·obtain ⟨m, hm⟩ : ∃ m, ms[j]? = some m := ⟨_, List.getElem?_eq_getElem hj⟩; obtain ⟨ad, rfl⟩ := HRM.out.some_ hm; have HM := Hd.mk hm; clear hm; go_upto_region 4 with fail
   refine wp_region_vd 4 [10, 11, 12, 5] [0] [3] 56 [.int .i64 0, .int .i64 0, .int .i64 0, .bool false] [qI ((j : Nat) : Int), isV (.pointer (some (ad.add (j * 4)))), isV (.agg #[.int .i64 m.x, .int .i64 m.y, .int .i64 m.t, .bool m.f]), SP.any] (by rfl) alloc_N ?_ ?_
   ·intro qi qh qA aa wx hb hs hd
    match qi, qh, qA with
    | 0, _, _ => exact aL (op_mv rfl (hs 8 rfl)) | 1, _, _ => exact aL (op_run rfl (op_idxVN hj rfl (hs 6 rfl) (hs 8 rfl) _) rfl) | 2, _, _ => exact aL (op_ldvVN rfl rfl (hd 1 rfl) ((HRM.out.to (bel_then HB.out hb)).at_ HM.out)) | 3, _, h => cases h | qi + 4, h, _ => omega
   intro vs X1 hb hv hal hne; have HL0 := Hd.mk (HE.out.lt); have HBW := HB; replace HB := Hd.mk (bel_then HB.out hb); replace HE := Hd.mk (HE.out.to hb); have HOL := Hd.mk HO.out.lt; replace HO := Hd.mk (HO.out.to hb); have e10 : vs 10 = .int .i64 (((j : Nat) : Int)) := hv 0 (by decide) rfl; have e12 : vs 12 = .agg #[.int .i64 m.x, .int .i64 m.y, .int .i64 m.t, .bool m.f] := hv 2 (by decide) rfl; obtain ⟨g5, e5, l5, b5⟩ : ∃ g, vs 5 = .pointer (some ⟨g, 0, none⟩) ∧ _ := hal 3 rfl; replace HE : Hd (Env X1 [⟨g5, 56, [.int .i64 0, .int .i64 0, .int .i64 0, .bool false]⟩]) := ⟨Env.addne (e := ⟨g5, 56, [.int .i64 0, .int .i64 0, .int .i64 0, .bool false]⟩) HE.out b5 (fun e' he => Nat.ne_of_lt (Nat.lt_of_lt_of_le (HL0.out e' he) l5))⟩; have HOG5 : Hd (∀ k, u3.ownBlock = some k → k < g5) := ⟨fun k hk => Nat.lt_of_lt_of_le (HOL.out k hk).2 l5⟩; have G5 : Hd (w.heap.size ≤ g5) := ⟨Nat.le_trans HBW.out.size l5⟩; simp only [PA, e10, e12, e5]; clear hv hal hne hb HL0 HBW e10 e12 e5 l5 b5 HOL; refine wpList_run rfl (op_asgE (v := .int .i64 (((j : Nat) : Int))) rfl rfl _) ?_; simp only [Act.put, List.setIfInBounds_toArray, List.set_cons_succ, List.set_cons_zero]; refine wpList_st rfl rfl rfl rfl rfl (sto_N (HE.out.get 0 rfl)) ?_; have HE' : Env (putL X1 g5 0 [.int .i64 m.x, .int .i64 m.y, .int .i64 m.t, .bool m.f]) [⟨g5, 56, [.int .i64 m.x, .int .i64 m.y, .int .i64 m.t, .bool m.f]⟩] := HE.out.putF 0 rfl rfl; have HB' := putL_below (show w.heap.size ≤ g5 from G5.out) [.int .i64 m.x, .int .i64 m.y, .int .i64 m.t, .bool m.f] _ 0 HB.out; replace HO := Hd.mk (HO.out.put (vs := [.int .i64 m.x, .int .i64 m.y, .int .i64 m.t, .bool m.f]) (o := 0) HOG5.out); generalize putL X1 g5 0 [.int .i64 m.x, .int .i64 m.y, .int .i64 m.t, .bool m.f] = X2 at *; replace HE := Hd.mk HE'; replace HB := Hd.mk HB'; clear HE' HB'; by_cases h5 : 520 < j
   ·skip
    go_upto_region 5 with fail
    refine wp_region_vd 2 [13, 14] [0, 1] [] 63 [.int .i64 0, .int .i64 0] [qI ((j : Nat) : Int), qT] (by rfl) alloc_Z ?_ ?_
    ·intro qi qh qA aa wx hb hs hd
     match qi, qh, qA with
     | 0, _, _ => exact aL (op_mv rfl (hs 4 rfl)) | 1, _, _ => exact aL (pure_b (bool_eq (decide_eq_true (by omega))) (⟨_, op_gtrI rfl (hd 0 rfl) rfl, rfl⟩)) | qi + 2, h, _ => omega
    intro vs X3 hb hv hal hne; replace HB := Hd.mk (bel_then HB.out hb); replace HE := Hd.mk (HE.out.to hb); have HOL := Hd.mk HO.out.lt; replace HO := Hd.mk (HO.out.to hb); have e14 : vs 14 = .bool true := hv 1 (by decide) rfl; simp only [PA, e14]; clear hv hal hne hb e14 HOL; have e5 : j = 521 := by omega
    have HO1 : OwnS w.heap.size X3 u3 (ms.take 521) := by rw [← e5]; exact HO.out
    go_wp2_with fail
    go_ret
    exact ⟨u3, rfl, HB.out, HO1⟩
   go_upto_region 5 with fail
   refine wp_region_vd 2 [13, 14] [0, 1] [] 63 [.int .i64 0, .int .i64 0] [qI ((j : Nat) : Int), qF] (by rfl) alloc_Z ?_ ?_
   ·intro qi qh qA aa wx hb hs hd
    match qi, qh, qA with
    | 0, _, _ => exact aL (op_mv rfl (hs 4 rfl)) | 1, _, _ => exact aL (pure_b (bool_eq (decide_eq_false (by omega))) (⟨_, op_gtrI rfl (hd 0 rfl) rfl, rfl⟩)) | qi + 2, h, _ => omega
   intro vs X3 hb hv hal hne; replace HB := Hd.mk (bel_then HB.out hb); replace HE := Hd.mk (HE.out.to hb); have HOL := Hd.mk HO.out.lt; replace HO := Hd.mk (HO.out.to hb); have e14 : vs 14 = .bool false := hv 1 (by decide) rfl; simp only [PA, e14]; clear hv hal hne hb e14 HOL; have k26a := HE.out.cell 0 0 rfl rfl; have k26b := HE.out.cell 0 1 rfl rfl; have k26c := HE.out.cell 0 2 rfl rfl; have k26d := HE.out.cell 0 3 rfl rfl; have HLN : (ms.take j).length ≤ 1024 := by rw [List.length_take]; omega
   have HXS := Nat.le_trans HB.out.size (Nat.le_refl _); obtain ⟨i0, hi0, hz0, hz1, hz2⟩ := info_parts Tryz.info_smove; have HTK := Hd.mk (show ms.take (j + 1) = ms.take j ++ [m] from by rw [List.take_add_one, HM.out]; rfl); generalize hms : ms.take j = zs at HO HLN HTK; clear hms; go_wp2_with (first | (go_at_call 29; refine (move_got m.x m.y m.t m.f _).mono ?_; rintro e w2 ⟨v2, rfl, hb2, rfl⟩; have HE2 := HE.out.to hb2) | (at_builtin; refine wpList_append_own _ rfl (.tmp 15) (.tmp 18) 29 rfl w.heap.size 65 i0 (.agg #[.int .i64 0, .int .i64 0, .int .i64 0, .bool false]) 4 32 Tryz.underlying29 hi0 hz0 hz1 hz2 rfl (by decide) u3 zs.length (mcells zs) rfl ((HO.out.to hb2).alloc _) ⟨w2.heap.size, 0, none⟩ 1 1 [.int .i64 m.x, .int .i64 m.y, .int .i64 m.t, .bool m.f] rfl rfl ?c1 ?c2 ?c3 ?c4 ?c5 ?_) | fail)
   case c1 =>
    intro z u hz; rcases z with _ | _ | _ | _ | z <;> simp at hz <;> subst hz <;> simp [Addr.add]
   case c2 =>
    intro u hu; simp at hu; rcases hu with rfl | rfl | rfl | rfl <;> rfl
   case c3 => unfold maxLen; omega
   case c4 => omega
   case c5 => have := hb2.size; simp; omega
   intro v1 w1 hown1 hg1 _; have HB2 := bel_then HB.out hb2; have HB1 := (below_alloc HB2 _).grown hg1 (by have := HB2.size; simp; omega) (fun z hz => (HO.out.lt z hz).1)
   have HO1 : OwnS w.heap.size w1 v1 (ms.take (j + 1)) := by
    rw [HTK.out]; unfold OwnS; rw [mcells_add, List.length_append]; exact hown1
   replace HB := Hd.mk HB1; replace HO := Hd.mk HO1; clear HB1 HO1 hown1 hg1 HE HE2 HB2; go_wp2_with fail
   go_roundw
   case rel => exact ⟨j + 1, by omega, by omega, by go_num, HO.out, HB.out⟩
   case measure => simp [intOf]; omega
  have e1 : j = ms.length := by omega
  have HO1 : OwnS w.heap.size wr u3 (ms.take 521) := by
   have h := HO.out; rw [List.take_of_length_le (by omega)] at h; rwa [List.take_of_length_le (by omega)]
  go_wp2_with fail
  go_ret
  exact ⟨u3, rfl, HB.out, HO1⟩
end Go.Proofs.YtddbmckbankmeaaGreat
set_option linter.unusedVariables false
namespace Go.Proofs.YtddbmckbankmeaaGreat
open Go.ChangeShapes Go.WideShapes Go.ChangeAt Go.RowKit Go.Joins
theorem cellsIntR : Tryz.prog.cellsOf 3 = 1 := by kernel_rfl
theorem cellsBoolR : Tryz.prog.cellsOf 4 = 1 := by kernel_rfl
structure RMs where
 A : Option Addr
 k : Nat
 ms : List Mv
def RMs.v (r : RMs) : Value := .slice r.A r.ms.length r.k
def RMs.at_ (r : RMs) (w : World) : Prop := RdM w r.A r.ms ∧ r.ms.length ≤ 9223372036854775807
set_option maxRecDepth 100000 in
theorem move_trod {H : Type} {enc : TypeId × Value → H} {W : World} {n : Nat} {cs : List Value} {y : DataW H × List MemPlace}
  (h : DataW.trod enc Tryz.prog W 0 (fun _ => true) true n 56 cs = some y) : ∃ m : Mv, cs = [.int .i64 m.x, .int .i64 m.y, .int .i64 m.t, .bool m.f] := by
 obtain ⟨y0, y1, y2, y3, m, hx, hl, h0, h1, h2, h3⟩ := trod_struct4 Tryz.underlying56 h; have hl4 : cs.length = 4 := hl.trans cellsMove
 match cs, hl4 with
 | [c0, c1, c2, c3], _ =>
  have h0' : DataW.trod enc Tryz.prog W 0 (fun _ => true) true m 3 [c0] = some y0 := by simpa [cellsIntR] using h0
  have h1' : DataW.trod enc Tryz.prog W 0 (fun _ => true) true m 3 [c1] = some y1 := by simpa [cellsIntR] using h1
  have h2' : DataW.trod enc Tryz.prog W 0 (fun _ => true) true m 3 [c2] = some y2 := by simpa [cellsIntR] using h2
  have h3' : DataW.trod enc Tryz.prog W 0 (fun _ => true) true m 4 [c3] = some y3 := by simpa [cellsBoolR] using h3
  obtain ⟨a0, e0, _, _⟩ := DataW.trod_int Tryz.underlying3 h0'; obtain ⟨a1, e1, _, _⟩ := DataW.trod_int Tryz.underlying3 h1'; obtain ⟨a2, e2, _, _⟩ := DataW.trod_int Tryz.underlying3 h2'; obtain ⟨a3, e3, _⟩ := DataW.trod_bool Tryz.underlying4 h3'; simp at e0 e1 e2 e3; subst e0 e1 e2 e3; exact ⟨⟨a0, a1, a2, a3⟩, rfl⟩
set_option maxRecDepth 100000 in
theorem open_Moves {H : Type} {enc : TypeId × Value → H} {W : World} {base : Nat} {v : Value} {d : DataW H} {p : List MemPlace}
  (hv : Value.okWide Tryz.prog W .any base 22 v) (h : DataW.Trod enc Tryz.prog W 0 (fun _ => true) true 22 v d p) : ∃ r : RMs, v = r.v ∧ r.at_ W := by
 obtain ⟨fuel, hf⟩ := h; have hvc : ∃ A l k, v = .slice A l k := okWide_slice Tryz.underlying22 hv; obtain ⟨A, l, k, rfl⟩ := hvc; rcases DataW.trod_slice Tryz.underlying22 hf with ⟨hcs, _⟩ | ⟨a, len, cap, elems, rest, n, _, hcs, _, hb, hl, hm, hlen, hel, hsp, hns⟩
 ·simp [Value.cells] at hcs; obtain ⟨rfl, rfl, rfl⟩ := hcs; refine ⟨⟨none, 0, []⟩, rfl, ?_, ?_⟩
  ·intro j m hj; cases hj
  show 0 ≤ _; omega
 simp [Value.cells] at hcs; obtain ⟨rfl, rfl, rfl⟩ := hcs
 have each : ∀ i, i < l → ∃ m : Mv, W.cells? 0 (a.add (i * 4)) 4 = some [.int .i64 m.x, .int .i64 m.y, .int .i64 m.t, .bool m.f] := by
  intro i hi; have he := hel i hi; rw [List.getElem?_eq_getElem (by omega), cellsMove] at he
  cases hc : W.cells? 0 (a.add (i * 4)) 4 with
  | none => rw [hc] at he; simp at he
  | some cs =>
   rw [hc] at he; simp only [Option.bind_some] at he; obtain ⟨m, rfl⟩ := move_trod he; exact ⟨m, rfl⟩
 refine ⟨⟨some a, k, (List.range l).map fun i => if hi : i < l then (each i hi).choose else ⟨0, 0, 0, false⟩⟩, ?_, ?_, ?_⟩
 ·unfold RMs.v; simp
 ·intro j m hj; refine ⟨a, rfl, ?_⟩; rw [List.getElem?_map] at hj
  have hjl : j < l := by
   cases hr : (List.range l)[j]? with
   | none => rw [hr] at hj; cases hj
   | some z => have := (List.getElem?_eq_some_iff.1 hr).1; simpa using this
  rw [List.getElem?_range hjl] at hj; simp only [Option.map_some, Option.some.injEq, dif_pos hjl] at hj; have hc := (each j hjl).choose_spec; rw [hj] at hc; have hq := (World.cells?_some hc).2.2; have q0 := hq 0 (by simp); have q1 := hq 1 (by simp); have q2 := hq 2 (by simp); have q3 := hq 3 (by simp); simp only [Addr.add_add] at q0 q1 q2 q3 ⊢; simp at q0 q1 q2 q3; exact ⟨q0, q1, q2, q3⟩
 show ((List.range l).map _).length ≤ _; rw [List.length_map, List.length_range]; unfold maxLen at hm; omega
end Go.Proofs.YtddbmckbankmeaaGreat
namespace Go.Proofs
open Go.Shelf
def Tryz.sortT_ren : Go.Shelf.Ren := ⟨fun | 6 => 88 | 15 => 87 | 14 => 113 | 28 => 111 | 29 => 112 | 20 => 131 | 21 => 132 | 22 => 133 | 23 => 134 | 24 => 135 | 25 => 136 | 26 => 137 | 27 => 138 | 46 => 142 | 47 => 127 | 48 => 128 | 49 => 143 | 50 => 144 | 57 => 145 | n => n, fun | 22 => 31 | 24 => 43 | 25 => 74 | 3 => 3 | 39 => 54 | 0 => 0 | 53 => 123 | 55 => 91 | 4 => 4 | 46 => 151 | 45 => 150 | 50 => 155 | 5 => 5 | 9 => 9 | 66 => 169 | 70 => 173 | 76 => 180 | 77 => 121 | n => n, fun n => n⟩
set_option maxRecDepth 100000 in
theorem Tryz.sortT : SlLaysF0.n6 Tryz.prog Tryz.sortT_ren := {
  mixed := by kernel_rfl
  f6 := ⟨"slices.SortFunc[[]canting/stamp.Stamp,canting/stamp.Stamp]", of_decide_eq_true (by kernel_rfl), Tryz.func88.trans (congrArg some (by kernel_rfl))⟩
  f14 := ⟨"slices.pdqsortCmpFunc[canting/stamp.Stamp]", of_decide_eq_true (by kernel_rfl), Tryz.func113.trans (congrArg some (by kernel_rfl))⟩
  f15 := Tryz.func87.trans (congrArg some (by kernel_rfl))
  f20 := ⟨"slices.insertionSortCmpFunc[canting/stamp.Stamp]", of_decide_eq_true (by kernel_rfl), Tryz.func131.trans (congrArg some (by kernel_rfl))⟩
  f21 := ⟨"slices.heapSortCmpFunc[canting/stamp.Stamp]", of_decide_eq_true (by kernel_rfl), Tryz.func132.trans (congrArg some (by kernel_rfl))⟩
  f22 := ⟨"slices.breakPatternsCmpFunc[canting/stamp.Stamp]", of_decide_eq_true (by kernel_rfl), Tryz.func133.trans (congrArg some (by kernel_rfl))⟩
  f23 := ⟨"slices.choosePivotCmpFunc[canting/stamp.Stamp]", of_decide_eq_true (by kernel_rfl), Tryz.func134.trans (congrArg some (by kernel_rfl))⟩
  f24 := ⟨"slices.reverseRangeCmpFunc[canting/stamp.Stamp]", of_decide_eq_true (by kernel_rfl), Tryz.func135.trans (congrArg some (by kernel_rfl))⟩
  f25 := ⟨"slices.partialInsertionSortCmpFunc[canting/stamp.Stamp]", of_decide_eq_true (by kernel_rfl), Tryz.func136.trans (congrArg some (by kernel_rfl))⟩
  f26 := ⟨"slices.partitionEqualCmpFunc[canting/stamp.Stamp]", of_decide_eq_true (by kernel_rfl), Tryz.func137.trans (congrArg some (by kernel_rfl))⟩
  f27 := ⟨"slices.partitionCmpFunc[canting/stamp.Stamp]", of_decide_eq_true (by kernel_rfl), Tryz.func138.trans (congrArg some (by kernel_rfl))⟩
  f28 := Tryz.func111.trans (congrArg some (by kernel_rfl))
  f29 := Tryz.func112.trans (congrArg some (by kernel_rfl))
  f46 := ⟨"slices.siftDownCmpFunc[canting/stamp.Stamp]", of_decide_eq_true (by kernel_rfl), Tryz.func142.trans (congrArg some (by kernel_rfl))⟩
  f47 := Tryz.func127.trans (congrArg some (by kernel_rfl))
  f48 := Tryz.func128.trans (congrArg some (by kernel_rfl))
  f49 := ⟨"slices.medianAdjacentCmpFunc[canting/stamp.Stamp]", of_decide_eq_true (by kernel_rfl), Tryz.func143.trans (congrArg some (by kernel_rfl))⟩
  f50 := ⟨"slices.medianCmpFunc[canting/stamp.Stamp]", of_decide_eq_true (by kernel_rfl), Tryz.func144.trans (congrArg some (by kernel_rfl))⟩
  f57 := ⟨"slices.order2CmpFunc[canting/stamp.Stamp]", of_decide_eq_true (by kernel_rfl), Tryz.func145.trans (congrArg some (by kernel_rfl))⟩
  t0 := Tryz.underlying0
  a0 := Tryz.isAgg0
  z0 := Tryz.sizeOf0
  v0 := Tryz.zeroValue0
  t3 := Tryz.underlying3
  a3 := Tryz.isAgg3
  z3 := Tryz.sizeOf3
  v3 := Tryz.zeroValue3
  t4 := Tryz.underlying4
  a4 := Tryz.isAgg4
  z4 := Tryz.sizeOf4
  v4 := Tryz.zeroValue4
  t5 := Tryz.underlying5
  a5 := Tryz.isAgg5
  z5 := Tryz.sizeOf5
  v5 := Tryz.zeroValue5
  t9 := Tryz.underlying9
  a9 := Tryz.isAgg9
  z9 := Tryz.sizeOf9
  v9 := Tryz.zeroValue9
  t22 := Tryz.underlying31
  a22 := Tryz.isAgg31
  z22 := Tryz.sizeOf31
  v22 := Tryz.zeroValue31
  t25 := Tryz.underlying74
  a25 := Tryz.isAgg74
  z25 := Tryz.sizeOf74
  v25 := Tryz.zeroValue74
  t39 := Tryz.underlying54
  a39 := Tryz.isAgg54
  z39 := Tryz.sizeOf54
  v39 := Tryz.zeroValue54
  t45 := Tryz.underlying150
  a45 := Tryz.isAgg150
  z45 := Tryz.sizeOf150
  v45 := Tryz.zeroValue150
  t46 := Tryz.underlying151
  a46 := Tryz.isAgg151
  z46 := Tryz.sizeOf151
  v46 := Tryz.zeroValue151
  t50 := Tryz.underlying155
  a50 := Tryz.isAgg155
  z50 := Tryz.sizeOf155
  v50 := Tryz.zeroValue155
  t53 := Tryz.underlying123
  a53 := Tryz.isAgg123
  z53 := Tryz.sizeOf123
  v53 := Tryz.zeroValue123
  t55 := Tryz.underlying91
  a55 := Tryz.isAgg91
  z55 := Tryz.sizeOf91
  v55 := Tryz.zeroValue91
  t66 := Tryz.underlying169
  a66 := Tryz.isAgg169
  z66 := Tryz.sizeOf169
  v66 := Tryz.zeroValue169
  t70 := Tryz.underlying173
  a70 := Tryz.isAgg173
  z70 := Tryz.sizeOf173
  v70 := Tryz.zeroValue173
  t76 := Tryz.underlying180
  a76 := Tryz.isAgg180
  z76 := Tryz.sizeOf180
  v76 := Tryz.zeroValue180
  t77 := Tryz.underlying121
  a77 := Tryz.isAgg121
  z77 := Tryz.sizeOf121
  v77 := Tryz.zeroValue121 }
def Tryz.sortM_ren : Go.Shelf.Ren := ⟨fun | 6 => 54 | 15 => 87 | 14 => 86 | 28 => 111 | 29 => 112 | 20 => 103 | 21 => 104 | 22 => 105 | 23 => 106 | 24 => 107 | 25 => 108 | 26 => 109 | 27 => 110 | 46 => 126 | 47 => 127 | 48 => 128 | 49 => 129 | 50 => 130 | 57 => 141 | n => n, fun | 22 => 29 | 24 => 65 | 25 => 95 | 3 => 3 | 39 => 54 | 0 => 0 | 53 => 123 | 55 => 91 | 4 => 4 | 46 => 151 | 45 => 150 | 50 => 155 | 5 => 5 | 9 => 9 | 66 => 169 | 70 => 173 | 76 => 180 | 77 => 121 | n => n, fun n => n⟩
set_option maxRecDepth 100000 in
theorem Tryz.sortM : SlLaysF0.n6 Tryz.prog Tryz.sortM_ren := {
  mixed := by kernel_rfl
  f6 := ⟨"slices.SortFunc[[]canting/stamp.Move,canting/stamp.Move]", of_decide_eq_true (by kernel_rfl), Tryz.func54.trans (congrArg some (by kernel_rfl))⟩
  f14 := ⟨"slices.pdqsortCmpFunc[canting/stamp.Move]", of_decide_eq_true (by kernel_rfl), Tryz.func86.trans (congrArg some (by kernel_rfl))⟩
  f15 := Tryz.func87.trans (congrArg some (by kernel_rfl))
  f20 := ⟨"slices.insertionSortCmpFunc[canting/stamp.Move]", of_decide_eq_true (by kernel_rfl), Tryz.func103.trans (congrArg some (by kernel_rfl))⟩
  f21 := ⟨"slices.heapSortCmpFunc[canting/stamp.Move]", of_decide_eq_true (by kernel_rfl), Tryz.func104.trans (congrArg some (by kernel_rfl))⟩
  f22 := ⟨"slices.breakPatternsCmpFunc[canting/stamp.Move]", of_decide_eq_true (by kernel_rfl), Tryz.func105.trans (congrArg some (by kernel_rfl))⟩
  f23 := ⟨"slices.choosePivotCmpFunc[canting/stamp.Move]", of_decide_eq_true (by kernel_rfl), Tryz.func106.trans (congrArg some (by kernel_rfl))⟩
  f24 := ⟨"slices.reverseRangeCmpFunc[canting/stamp.Move]", of_decide_eq_true (by kernel_rfl), Tryz.func107.trans (congrArg some (by kernel_rfl))⟩
  f25 := ⟨"slices.partialInsertionSortCmpFunc[canting/stamp.Move]", of_decide_eq_true (by kernel_rfl), Tryz.func108.trans (congrArg some (by kernel_rfl))⟩
  f26 := ⟨"slices.partitionEqualCmpFunc[canting/stamp.Move]", of_decide_eq_true (by kernel_rfl), Tryz.func109.trans (congrArg some (by kernel_rfl))⟩
  f27 := ⟨"slices.partitionCmpFunc[canting/stamp.Move]", of_decide_eq_true (by kernel_rfl), Tryz.func110.trans (congrArg some (by kernel_rfl))⟩
  f28 := Tryz.func111.trans (congrArg some (by kernel_rfl))
  f29 := Tryz.func112.trans (congrArg some (by kernel_rfl))
  f46 := ⟨"slices.siftDownCmpFunc[canting/stamp.Move]", of_decide_eq_true (by kernel_rfl), Tryz.func126.trans (congrArg some (by kernel_rfl))⟩
  f47 := Tryz.func127.trans (congrArg some (by kernel_rfl))
  f48 := Tryz.func128.trans (congrArg some (by kernel_rfl))
  f49 := ⟨"slices.medianAdjacentCmpFunc[canting/stamp.Move]", of_decide_eq_true (by kernel_rfl), Tryz.func129.trans (congrArg some (by kernel_rfl))⟩
  f50 := ⟨"slices.medianCmpFunc[canting/stamp.Move]", of_decide_eq_true (by kernel_rfl), Tryz.func130.trans (congrArg some (by kernel_rfl))⟩
  f57 := ⟨"slices.order2CmpFunc[canting/stamp.Move]", of_decide_eq_true (by kernel_rfl), Tryz.func141.trans (congrArg some (by kernel_rfl))⟩
  t0 := Tryz.underlying0
  a0 := Tryz.isAgg0
  z0 := Tryz.sizeOf0
  v0 := Tryz.zeroValue0
  t3 := Tryz.underlying3
  a3 := Tryz.isAgg3
  z3 := Tryz.sizeOf3
  v3 := Tryz.zeroValue3
  t4 := Tryz.underlying4
  a4 := Tryz.isAgg4
  z4 := Tryz.sizeOf4
  v4 := Tryz.zeroValue4
  t5 := Tryz.underlying5
  a5 := Tryz.isAgg5
  z5 := Tryz.sizeOf5
  v5 := Tryz.zeroValue5
  t9 := Tryz.underlying9
  a9 := Tryz.isAgg9
  z9 := Tryz.sizeOf9
  v9 := Tryz.zeroValue9
  t22 := Tryz.underlying29
  a22 := Tryz.isAgg29
  z22 := Tryz.sizeOf29
  v22 := Tryz.zeroValue29
  t25 := Tryz.underlying95
  a25 := Tryz.isAgg95
  z25 := Tryz.sizeOf95
  v25 := Tryz.zeroValue95
  t39 := Tryz.underlying54
  a39 := Tryz.isAgg54
  z39 := Tryz.sizeOf54
  v39 := Tryz.zeroValue54
  t45 := Tryz.underlying150
  a45 := Tryz.isAgg150
  z45 := Tryz.sizeOf150
  v45 := Tryz.zeroValue150
  t46 := Tryz.underlying151
  a46 := Tryz.isAgg151
  z46 := Tryz.sizeOf151
  v46 := Tryz.zeroValue151
  t50 := Tryz.underlying155
  a50 := Tryz.isAgg155
  z50 := Tryz.sizeOf155
  v50 := Tryz.zeroValue155
  t53 := Tryz.underlying123
  a53 := Tryz.isAgg123
  z53 := Tryz.sizeOf123
  v53 := Tryz.zeroValue123
  t55 := Tryz.underlying91
  a55 := Tryz.isAgg91
  z55 := Tryz.sizeOf91
  v55 := Tryz.zeroValue91
  t66 := Tryz.underlying169
  a66 := Tryz.isAgg169
  z66 := Tryz.sizeOf169
  v66 := Tryz.zeroValue169
  t70 := Tryz.underlying173
  a70 := Tryz.isAgg173
  z70 := Tryz.sizeOf173
  v70 := Tryz.zeroValue173
  t76 := Tryz.underlying180
  a76 := Tryz.isAgg180
  z76 := Tryz.sizeOf180
  v76 := Tryz.zeroValue180
  t77 := Tryz.underlying121
  a77 := Tryz.isAgg121
  z77 := Tryz.sizeOf121
  v77 := Tryz.zeroValue121 }
end Go.Proofs
