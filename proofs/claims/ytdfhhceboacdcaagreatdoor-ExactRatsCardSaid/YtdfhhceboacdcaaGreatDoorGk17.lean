/- Part 17 of the texts behind this claim. -/
import Derived.Great.BuildSlice
import Derived.Test.YtdfhhceboacdcaaGreatDoorGk6
import Derived.Test.YtdfhhceboacdcaaGreatDoorGk8
import Derived.Test.YtdfhhceboacdcaaGreatDoorGk10
import Derived.Test.YtdfhhceboacdcaaGreatDoorGk13
import Derived.Test.YtdfhhceboacdcaaGreatDoorGk14
import Derived.Test.YtdfhhceboacdcaaGreatDoorGk15
import Derived.Test.YtdfhhceboacdcaaGreatDoorGk16
set_option linter.unusedVariables false
namespace Go.Proofs.YtdfhhceboacdcaaGreatDoor
theorem zgcd_eq (p q : Int) : zgcd p q = ((Int.gcd p q : Nat) : Int) := by unfold zgcd; rw [Int.gcd_eq_natAbs_gcd_natAbs]
theorem zgcd_pos {p q : Int} (hq : q ≠ 0) : 0 < zgcd p q := by
 unfold zgcd; have : 0 < Nat.gcd p.natAbs q.natAbs := Nat.gcd_pos_of_pos_right _ (by omega); omega
theorem zgcd_left (p q : Int) : zgcd p q ∣ p := by rw [zgcd_eq]; exact Int.gcd_dvd_left _ _
theorem zgcd_right (p q : Int) : zgcd p q ∣ q := by rw [zgcd_eq]; exact Int.gcd_dvd_right _ _
theorem zgcd_step (a b : Int) : zgcd b (a % b) = zgcd a b := by
 rw [zgcd_eq, zgcd_eq]; congr 1
 have h : a % b = a - (a / b) * b := by have := Int.mul_ediv_add_emod a b; rw [Int.mul_comm] at this; omega
 rw [h, Int.gcd_sub_mul_right_right, Int.gcd_comm]
def exm (p q : Int) : Int := (q.natAbs : Int) / zgcd p q
theorem exm_mul (p q : Int) : zgcd p q * exm p q = (q.natAbs : Int) := by
 unfold exm; exact Int.mul_ediv_cancel' (by rw [Int.dvd_natAbs]; exact zgcd_right p q)
structure EU (p q r0 r1 s0 s1 : Int) : Prop where
 d0 : q ∣ s0 * p - r0
 d1 : q ∣ s1 * p - r1
 g : zgcd r0 r1 = zgcd p q
 b0 : s0.natAbs ≤ 3 * q.natAbs
 b1 : s1.natAbs ≤ 3 * q.natAbs
 a0 : r0.natAbs ≤ p.natAbs + q.natAbs
 a1 : r1.natAbs ≤ q.natAbs
 ph : (r0 = p ∧ r1 = q ∧ s0 = 1 ∧ s1 = 0) ∨ (r0 = q ∧ 0 ≤ r1 ∧ s0 = 0 ∧ s1 = 1) ∨ (0 ≤ r0 ∧ 0 ≤ r1 ∧ s1.natAbs * r0.natAbs + s0.natAbs * r1.natAbs ≤ 3 * q.natAbs)
theorem phi_step {K R0 R1 R2 S0 S1 S2 B : Nat} (hr : R0 = K * R1 + R2) (hs : S2 ≤ S0 + K * S1) (h : S1 * R0 + S0 * R1 ≤ B) : S2 * R1 + S1 * R2 ≤ B := by
 refine Nat.le_trans ?_ h; have h1 := Nat.mul_le_mul_right R1 hs; rw [Nat.add_mul] at h1; rw [hr, Nat.mul_add]; have h2 : K * S1 * R1 = S1 * (K * R1) := by rw [Nat.mul_comm K S1, Nat.mul_assoc]
 omega
theorem abs_step {r0 r1 : Int} (h0 : 0 ≤ r0) (h1 : 0 < r1) : r0.natAbs = (r0 / r1).natAbs * r1.natAbs + (r0 % r1).natAbs := by
 have h2 := Int.mul_ediv_add_emod r0 r1; have h3 : 0 ≤ r0 / r1 := Int.ediv_nonneg h0 (by omega); have h4 := Int.emod_nonneg r0 (show r1 ≠ 0 by omega)
 have h5 : (((r0 / r1).natAbs * r1.natAbs : Nat) : Int) = r1 * (r0 / r1) := by
  rw [Int.natCast_mul, Int.natAbs_of_nonneg h3, Int.natAbs_of_nonneg (by omega), Int.mul_comm]
 omega
theorem EU.step {p q r0 r1 s0 s1 : Int} (h : EU p q r0 r1 s0 s1) (h1 : r1 ≠ 0) : EU p q r1 (r0 % r1) s1 (s0 - r0 / r1 * s1) := by
 have hm0 := Int.emod_nonneg r0 h1; have hml : (r0 % r1).natAbs < r1.natAbs := by have := Int.emod_lt r0 h1; omega
 have hd : q ∣ (s0 - r0 / r1 * s1) * p - r0 % r1 := by
  have e : (s0 - r0 / r1 * s1) * p - r0 % r1 = (s0 * p - r0) - r0 / r1 * (s1 * p - r1) := by
   have := Int.mul_ediv_add_emod r0 r1; rw [Int.sub_mul, Int.mul_sub, Int.mul_assoc, Int.mul_comm (r0 / r1) r1]; omega
  rw [e]; exact Int.dvd_sub h.d0 (Int.dvd_mul_of_dvd_right h.d1)
 have hg : zgcd r1 (r0 % r1) = zgcd p q := by rw [zgcd_step, h.g]
 have key : (0 ≤ r1 ∧ (s0 - r0 / r1 * s1).natAbs * r1.natAbs + s1.natAbs * (r0 % r1).natAbs ≤ 3 * q.natAbs) → EU p q r1 (r0 % r1) s1 (s0 - r0 / r1 * s1) := by
  rintro ⟨hp, hb⟩; refine ⟨h.d1, hd, hg, h.b1, ?_, by have := h.a1; omega, by have := h.a1; omega, .inr (.inr ⟨hp, hm0, hb⟩)⟩; have : 1 ≤ r1.natAbs := by omega
  have h2 := Nat.mul_le_mul_left (s0 - r0 / r1 * s1).natAbs this; omega
 rcases h.ph with ⟨e0, e1, e2, e3⟩ | ⟨e0, e1, e2, e3⟩ | ⟨e0, e1, e2⟩
 ·subst e2 e3 e1; rw [Int.mul_zero, Int.sub_zero] at hd ⊢; exact ⟨h.d1, hd, hg, h.b1, h.b0, by omega, by omega, .inr (.inl ⟨rfl, hm0, rfl, rfl⟩)⟩
 ·apply key; subst e2 e3 e0; refine ⟨e1, ?_⟩; rw [Int.mul_one, Int.zero_sub, Int.natAbs_neg]; have h2 := Int.mul_ediv_add_emod r0 r1
  have h3 : (((r0 / r1).natAbs * r1.natAbs : Nat) : Int) = ((r1 * (r0 / r1)).natAbs : Int) := by
   rw [Int.natAbs_mul, Nat.mul_comm]
  have h4 : (r1 * (r0 / r1)).natAbs ≤ r0.natAbs + (r0 % r1).natAbs := by omega
  have h5 : (r0 / r1).natAbs * r1.natAbs ≤ r0.natAbs + (r0 % r1).natAbs := by omega
  have h6 := h.a1; show (r0 / r1).natAbs * r1.natAbs + 1 * (r0 % r1).natAbs ≤ 3 * r0.natAbs; omega
 apply key; refine ⟨e1, phi_step (K := (r0 / r1).natAbs) (abs_step e0 (by omega)) ?_ e2⟩; refine Nat.le_trans (Int.natAbs_sub_le _ _) ?_; rw [Int.natAbs_mul]; exact Nat.le_refl _
structure EV (a0 m a b x y : Int) : Prop where
 d0 : m ∣ x * a0 - a
 d1 : m ∣ y * a0 - b
 g : zgcd a b = zgcd a0 m
 na : 0 ≤ a
 nb : 0 ≤ b
 la : a ≤ m
 lb : b ≤ m
 bx : x.natAbs ≤ m.natAbs
 by_ : y.natAbs ≤ m.natAbs
 ph : y.natAbs * a.natAbs + x.natAbs * b.natAbs ≤ m.natAbs
theorem EV.step {a0 m a b x y : Int} (h : EV a0 m a b x y) (h1 : b ≠ 0) : EV a0 m b (a % b) y (x - a / b * y) := by
 have hm0 := Int.emod_nonneg a h1; have hml : (a % b).natAbs < b.natAbs := by have := Int.emod_lt a h1; omega
 have hb0 := h.nb
 have hd : m ∣ (x - a / b * y) * a0 - a % b := by
  have e : (x - a / b * y) * a0 - a % b = (x * a0 - a) - a / b * (y * a0 - b) := by
   have := Int.mul_ediv_add_emod a b; rw [Int.sub_mul, Int.mul_sub, Int.mul_assoc, Int.mul_comm (a / b) b]; omega
  rw [e]; exact Int.dvd_sub h.d0 (Int.dvd_mul_of_dvd_right h.d1)
 have hph : (x - a / b * y).natAbs * b.natAbs + y.natAbs * (a % b).natAbs ≤ m.natAbs := by
  refine phi_step (K := (a / b).natAbs) (abs_step h.na (by omega)) ?_ h.ph; refine Nat.le_trans (Int.natAbs_sub_le _ _) ?_; rw [Int.natAbs_mul]; exact Nat.le_refl _
 refine ⟨h.d1, hd, by rw [zgcd_step, h.g], hb0, hm0, h.lb, by have := h.lb; omega, h.by_, ?_, hph⟩; have : 1 ≤ b.natAbs := by omega
 have h2 := Nat.mul_le_mul_left (x - a / b * y).natAbs this; omega
end Go.Proofs.YtdfhhceboacdcaaGreatDoor
set_option linter.unusedVariables false
set_option linter.unusedSimpArgs false
namespace Go.Proofs.YtdfhhceboacdcaaGreatDoor
open Go.RowKit
theorem whole_one (w : World) : Calls Tryz.prog 36 #[.int .i64 1] w (Got w (isZ 1).p) := (Whole_calls 1 w (by omega) (by omega)).mono fun e w' h => h.got
set_option maxHeartbeats 1000000 in
set_option maxRecDepth 100000 in
theorem rExactly_calls (x y : Int) (A1 : Option Addr) (c1 : Nat) (A2 : Option Addr) (c2 : Nat) (w : World) (h1 : NN w A1 c1 x.natAbs) (h2 : NN w A2 c2 y.natAbs) (hy : y ≠ 0) (l1 : ln x.natAbs ≤ 268435456) (l2 : ln y.natAbs ≤ 268435456) :
  Calls Tryz.prog 62 #[.agg #[.bool (decide (x < 0)), .slice A1 (ln x.natAbs) c1], .agg #[.bool (decide (y < 0)), .slice A2 (ln y.natAbs) c2]] w (RetZ (x / y) w) := by
 have HO := Hd.mk (fun W (hW : Below w.heap.size w W) => rOver_calls x y A1 c1 A2 c2 W (h1.to hW) (h2.to hW) hy l1 l2); clear h1 h2 hy; obtain ⟨q, hq⟩ : ∃ q, q = x / y := ⟨_, rfl⟩; obtain ⟨r, hr⟩ : ∃ r, r = x % y := ⟨_, rfl⟩; rw [← hq, ← hr] at HO; rw [← hq]; obtain ⟨b1, hb1⟩ : ∃ b, b = decide (x < 0) := ⟨_, rfl⟩; obtain ⟨b2, hb2⟩ : ∃ b, b = decide (y < 0) := ⟨_, rfl⟩; rw [← hb1, ← hb2] at HO ⊢; obtain ⟨n1, hn1⟩ : ∃ n, n = ln x.natAbs := ⟨_, rfl⟩; obtain ⟨n2, hn2⟩ : ∃ n, n = ln y.natAbs := ⟨_, rfl⟩; rw [← hn1, ← hn2] at HO ⊢; clear hb1 hb2 hn1 hn2 hq hr; go_enter Tryz.func62, Tryz.ntmps62
 go_wp2_with fail
 obtain ⟨W0, hW0⟩ : ∃ W : World, W = ((w.alloc (.cells #[.bool b1, .slice A1 n1 c1] 61)).alloc (.cells #[.bool b2, .slice A2 n2 c2] 61)).alloc (.cells #[.bool false, .slice none 0 0] 61) := ⟨_, rfl⟩; rw [← hW0]; have HSZ : Hd (w.heap.size + 1 + 1 + 1 = W0.heap.size) := ⟨by rw [hW0]; simp⟩; obtain ⟨hB0, hB1, hB2, hBW⟩ := boxes3 hW0; have q0 := hB0.c0; have q1 := hB0.c1; have q2 := hB1.c0; have q3 := hB1.c1; have g0 := hB2.c0; have g1 := hB2.c1; have u0 := hB2.f0; have u1 := hB2.f1; have Q0 := Hd.mk hB0; have Q1 := Hd.mk hB1; have QR := Hd.mk hB2; have HW := Hd.mk hBW; have HB : Hd (Below W0.heap.size W0 W0) := ⟨Below.refl _ _⟩; clear hB0 hB1 hB2 hBW hW0; refine (HO.out _ HW.out).mono ?_; rintro e w1 ⟨A3, c3, A4, c4, rfl, hn3, hn4, hb1⟩; have HN3 := Hd.mk hn3; clear hn3 hn4; have HB' : Hd (Below W0.heap.size W0 _) := ⟨bel_then (by repeat (first | exact HB.out | exact Below.refl _ _ | refine below_alloc ?_ _ | refine below_drewN ?_ _ | refine below_drew ?_ | refine below_set ?_ (by first | exact Nat.le_refl _ | omega | (simp; done) | (simp; omega)) _)) hb1⟩; clear HB; have HB := HB'; clear HB' hb1; replace q0 := (Q0.out.to HB.out).c0; replace q1 := (Q0.out.to HB.out).c1; replace q2 := (Q1.out.to HB.out).c0; replace q3 := (Q1.out.to HB.out).c1; replace g0 := (QR.out.to HB.out).c0; replace g1 := (QR.out.to HB.out).c1; replace u0 := (QR.out.to HB.out).f0; replace u1 := (QR.out.to HB.out).f1; go_upto_region 2 with fail
 obtain ⟨W1, hW1⟩ : ∃ W : World, W = (w1.alloc (.cells #[.bool (decide (q < 0)), .slice A3 (ln q.natAbs) c3] 61)).alloc (.cells #[.bool (decide (r < 0)), .slice A4 (ln r.natAbs) c4] 61) := ⟨_, rfl⟩; rw [← hW1]; obtain ⟨hX, hY, hbw⟩ := boxes2 hW1; replace HN3 := Hd.mk (HN3.out.to hbw); have HB' : Hd (Below W0.heap.size W0 _) := ⟨bel_then (by repeat (first | exact HB.out | exact Below.refl _ _ | refine below_alloc ?_ _ | refine below_drewN ?_ _ | refine below_drew ?_ | refine below_set ?_ (by first | exact Nat.le_refl _ | omega | (simp; done) | (simp; omega)) _)) hbw⟩; clear HB; have HB := HB'; clear HB' hbw; replace q0 := (Q0.out.to HB.out).c0; replace q1 := (Q0.out.to HB.out).c1; replace q2 := (Q1.out.to HB.out).c0; replace q3 := (Q1.out.to HB.out).c1; replace g0 := (QR.out.to HB.out).c0; replace g1 := (QR.out.to HB.out).c1; replace u0 := (QR.out.to HB.out).f0; replace u1 := (QR.out.to HB.out).f1; have x0 := hX.c0; have x1 := hX.c1; clear hW1 hX hY; go_wp2_with fail
 obtain ⟨k0, k1, k2⟩ := two_set g0 g1 (.bool (decide (q < 0))) (.slice A3 (ln q.natAbs) c3); refine bodyPost_ret (v := .agg #[.bool (decide (q < 0)), .slice A3 (ln q.natAbs) c3]) (by simp [results, Tryz.results62, go_sem, k0, k1]) rfl ?_; exact ⟨A3, c3, rfl, (HN3.out.set_ g0 (by intro t; simp) _).set_ k2 (by intro t; simp) _, (by repeat (first | exact bel_then HW.out HB.out | refine below_set ?_ (by first | exact Nat.le_refl _ | omega | (simp; done) | (simp; omega)) _ | refine below_alloc ?_ _ | refine below_drewN ?_ _ | refine below_drew ?_))⟩
end Go.Proofs.YtdfhhceboacdcaaGreatDoor
set_option linter.unusedVariables false
namespace Go.Proofs.YtdfhhceboacdcaaGreatDoor
def qn (n d : Int) : Int := (if d < 0 then -n else n) / zgcd n d
def qd (n d : Int) : Int := (d.natAbs : Int) / zgcd n d
theorem zgcd_neg (n d : Int) : zgcd (-n) (-d) = zgcd n d := by unfold zgcd; rw [Int.natAbs_neg, Int.natAbs_neg]
theorem qd_mul (n d : Int) : zgcd n d * qd n d = (d.natAbs : Int) := exm_mul n d
theorem qd_le (n : Int) {d : Int} (h : d ≠ 0) : (qd n d).natAbs ≤ d.natAbs := by
 have := Int.natAbs_ediv_le_natAbs (d.natAbs : Int) (zgcd n d); rw [Int.natAbs_natCast] at this; exact this
theorem qn_le (n d : Int) : (qn n d).natAbs ≤ n.natAbs := by
 unfold qn; split
 ·have := Int.natAbs_ediv_le_natAbs (-n) (zgcd n d); rwa [Int.natAbs_neg] at this
 exact Int.natAbs_ediv_le_natAbs n (zgcd n d)
theorem low_n (n d : Int) : (if d / zgcd n d < 0 then -(n / zgcd n d) else n / zgcd n d) = qn n d := by
  by_cases hd : d = 0
  · subst hd; unfold qn; rw [Int.zero_ediv, if_neg (by omega), if_neg (by omega)]
  have hg := zgcd_pos (p := n) hd; obtain ⟨k, hk⟩ := zgcd_right n d; obtain ⟨m, hm⟩ := zgcd_left n d
  have e1 : d / zgcd n d = k := by conv => lhs; lhs; rw [hk]
                                   exact Int.mul_ediv_cancel_left _ (by omega)
  have e2 : n / zgcd n d = m := by conv => lhs; lhs; rw [hm]
                                   exact Int.mul_ediv_cancel_left _ (by omega)
  have e3 : -n / zgcd n d = -m := by conv => lhs; lhs; rw [hm, ← Int.mul_neg]
                                     exact Int.mul_ediv_cancel_left _ (by omega)
  have hs : k < 0 ↔ d < 0 := by
    constructor
    · intro h; rw [hk]; exact Int.mul_neg_of_pos_of_neg hg h
    intro h; rcases Int.lt_or_le k 0 with h2 | h2
    · exact h2
    have := Int.mul_nonneg (show 0 ≤ zgcd n d by omega) h2; rw [← hk] at this; omega
  unfold qn; rw [e1, e2]; by_cases h : d < 0
  · rw [if_pos h, if_pos (hs.2 h), e3]
  rw [if_neg h, if_neg (fun h2 => h (hs.1 h2)), e2]
theorem low_d (n : Int) {d : Int} (hd : d ≠ 0) : (if d / zgcd n d < 0 then -(d / zgcd n d) else d / zgcd n d) = qd n d := by
  have hg := zgcd_pos (p := n) hd; have h2 := qd_mul n d; obtain ⟨k, hk⟩ := zgcd_right n d
  have e1 : d / zgcd n d = k := by conv => lhs; lhs; rw [hk]
                                   exact Int.mul_ediv_cancel_left _ (by omega)
  rw [e1]; apply Int.eq_of_mul_eq_mul_left (show zgcd n d ≠ 0 by omega); rw [h2]; conv => rhs; rw [hk]
  rw [Int.natAbs_mul, Int.natCast_mul, show ((zgcd n d).natAbs : Int) = zgcd n d by omega]; congr 1
  split <;> omega
end Go.Proofs.YtdfhhceboacdcaaGreatDoor
set_option linter.unusedVariables false
set_option linter.unusedSimpArgs false
namespace Go.Proofs.YtdfhhceboacdcaaGreatDoor
open Go.RowKit
section
variable {P : Program} {Q : Exit → Act → World → Prop} {ops : Array Oper} {o : Oper} {rest : List Oper} {a : Act} {w w' : World} {T : TypeId} {x y : Operand} {p v : Value}
theorem wpList_st (hg : o.guard = none) (hd : o.dst = none) (ho : o.op = .store T x y) (hx : a.eval x = p) (hy : a.eval y = v)
  (hs : (Instr.storeAt T p v).run P w = .ok () w') (h : wpList P ops Q rest a w') : wpList P ops Q (o :: rest) a w := by
 unfold wpList; rw [if_pos (by simp [Region.wanted, hg])]; refine .inl ?_; unfold Oper.wp execOp; simp only [ho, hx, hy, Sem.run_bind, hs, Result.andThen_ok, Sem.run_pure, Oper.upon, hd, Act.put]; exact h
end
section
variable {w : World} {g o : Nat} {t : TypeId} {x y u v u' v' : Value} {c c' d d' : CP} {l : List CP} {vs : List Value}
theorem cell_of {i : Nat} {k : Value} (hb : Blk w g t vs) (h : vs[i]? = some k) : w.cell? ⟨g, i, none⟩ = some k := (hb.cell i).trans h
theorem st_I (hc : c.p u v w) (h0 : w.cell? ⟨g, o, none⟩ = some x) (h1 : w.cell? ⟨g, o + 1, none⟩ = some y) (f0 : w.frozen? ⟨g, o, none⟩ = false) (f1 : w.frozen? ⟨g, o + 1, none⟩ = false) :
  (Instr.storeAt 24 (.pointer (some ⟨g, o, none⟩)) (.agg #[u, v])).run Tryz.prog w = .ok () (putAt w g o u v) := by
 obtain ⟨b, A, l, c, rfl, rfl⟩ := c.nb _ _ _ hc; unfold putAt; simp [go_sem, h0, h1, f0, f1]
theorem sto_I (hc : c.p u v w) (s : Slot l o) (k : HL w g t l) : (Instr.storeAt 24 (.pointer (some ⟨g, o, none⟩)) (.agg #[u, v])).run Tryz.prog w = .ok () (putAt w g o u v) := by
 obtain ⟨vs, x, y, hb, _, h0, h1⟩ := s.at_ k; exact st_I hc (cell_of hb h0) (cell_of hb h1) (hb.frozen _) (hb.frozen _)
theorem st_W (hc : c.p u v w) (h0 : w.cell? ⟨g, o, none⟩ = some x) (h1 : w.cell? ⟨g, o + 1, none⟩ = some y) (f0 : w.frozen? ⟨g, o, none⟩ = false) (f1 : w.frozen? ⟨g, o + 1, none⟩ = false) :
  (Instr.storeAt 51 (.pointer (some ⟨g, o, none⟩)) (.agg #[u, v])).run Tryz.prog w = .ok () (putAt w g o u v) := by
 obtain ⟨b, A, l, c, rfl, rfl⟩ := c.nb _ _ _ hc; unfold putAt; simp [go_sem, h0, h1, f0, f1]
theorem sto_W (hc : c.p u v w) (s : Slot l o) (k : HL w g t l) : (Instr.storeAt 51 (.pointer (some ⟨g, o, none⟩)) (.agg #[u, v])).run Tryz.prog w = .ok () (putAt w g o u v) := by
 obtain ⟨vs, x, y, hb, _, h0, h1⟩ := s.at_ k; exact st_W hc (cell_of hb h0) (cell_of hb h1) (hb.frozen _) (hb.frozen _)
theorem st_Z (hc : c.p u v w) (h0 : w.cell? ⟨g, o, none⟩ = some x) (h1 : w.cell? ⟨g, o + 1, none⟩ = some y) (f0 : w.frozen? ⟨g, o, none⟩ = false) (f1 : w.frozen? ⟨g, o + 1, none⟩ = false) :
  (Instr.storeAt 61 (.pointer (some ⟨g, o, none⟩)) (.agg #[u, v])).run Tryz.prog w = .ok () (putAt w g o u v) := by
 obtain ⟨b, A, l, c, rfl, rfl⟩ := c.nb _ _ _ hc; unfold putAt; simp [go_sem, h0, h1, f0, f1]
theorem sto_Z (hc : c.p u v w) (s : Slot l o) (k : HL w g t l) : (Instr.storeAt 61 (.pointer (some ⟨g, o, none⟩)) (.agg #[u, v])).run Tryz.prog w = .ok () (putAt w g o u v) := by
 obtain ⟨vs, x, y, hb, _, h0, h1⟩ := s.at_ k; exact st_Z hc (cell_of hb h0) (cell_of hb h1) (hb.frozen _) (hb.frozen _)
theorem sto_R (hc : c.p u v w) (hc' : c'.p u' v' w) (k : HL w g t [d, d']) : (Instr.storeAt 26 (.pointer (some ⟨g, 0, none⟩)) (.agg #[u, v, u', v'])).run Tryz.prog w = .ok () (putAt (putAt w g 0 u v) g 2 u' v') := by
 obtain ⟨a0, a1, a2, a3, hb, _, _⟩ := k.two; have h0 := hb.cell 0; have h1 := hb.cell 1; have h2 := hb.cell 2; have h3 := hb.cell 3; have f0 := hb.frozen 0; have f1 := hb.frozen 1; have f2 := hb.frozen 2; have f3 := hb.frozen 3; simp at h0 h1 h2 h3; obtain ⟨b, A, l, cc, rfl, rfl⟩ := c.nb _ _ _ hc; obtain ⟨b', A', l', cc', rfl, rfl⟩ := c'.nb _ _ _ hc'; unfold putAt; simp [go_sem, h0, h1, h2, h3, f0, f1, f2, f3]
theorem sto_Q (hc : c.p u v w) (hc' : c'.p u' v' w) (k : HL w g t [d, d']) : (Instr.storeAt 53 (.pointer (some ⟨g, 0, none⟩)) (.agg #[u, v, u', v'])).run Tryz.prog w = .ok () (putAt (putAt w g 0 u v) g 2 u' v') := by
 obtain ⟨a0, a1, a2, a3, hb, _, _⟩ := k.two; have h0 := hb.cell 0; have h1 := hb.cell 1; have h2 := hb.cell 2; have h3 := hb.cell 3; have f0 := hb.frozen 0; have f1 := hb.frozen 1; have f2 := hb.frozen 2; have f3 := hb.frozen 3; simp at h0 h1 h2 h3; obtain ⟨b, A, l, cc, rfl, rfl⟩ := c.nb _ _ _ hc; obtain ⟨b', A', l', cc', rfl, rfl⟩ := c'.nb _ _ _ hc'; unfold putAt; simp [go_sem, h0, h1, h2, h3, f0, f1, f2, f3]
theorem sto_S (hc : c.p u v w) (hc' : c'.p u' v' w) (k : HL w g t [d, d']) : (Instr.storeAt 65 (.pointer (some ⟨g, 0, none⟩)) (.agg #[u, v, u', v'])).run Tryz.prog w = .ok () (putAt (putAt w g 0 u v) g 2 u' v') := by
 obtain ⟨a0, a1, a2, a3, hb, _, _⟩ := k.two; have h0 := hb.cell 0; have h1 := hb.cell 1; have h2 := hb.cell 2; have h3 := hb.cell 3; have f0 := hb.frozen 0; have f1 := hb.frozen 1; have f2 := hb.frozen 2; have f3 := hb.frozen 3; simp at h0 h1 h2 h3; obtain ⟨b, A, l, cc, rfl, rfl⟩ := c.nb _ _ _ hc; obtain ⟨b', A', l', cc', rfl, rfl⟩ := c'.nb _ _ _ hc'; unfold putAt; simp [go_sem, h0, h1, h2, h3, f0, f1, f2, f3]
theorem alloc_R (w : World) : (Instr.alloc 26 true (.tuple #[])).run Tryz.prog w = .ok (.pointer (some ⟨w.heap.size, 0, none⟩)) (w.alloc (.cells [.bool false, .slice none 0 0, .bool false, .slice none 0 0].toArray 26)) := by
 simp [go_sem]
end
section
variable {w w' : World} {L : List Ent} {i g : Nat} {t : TypeId} {c c' d d' : CP} {u v u' v' : Value}
theorem Env.put4 (i : Nat) (h : Env w L) (hi : L[i]? = some ⟨g, t, [c, d]⟩) (hc : c'.p u v w) (hd : d'.p u' v' w) : Env (putAt (putAt w g 0 u v) g 2 u' v') (L.set i ⟨g, t, [c', d']⟩) := by
 have k := h.get i hi; have h1 := h.put20 i hi hc; have hd' := cp_at hd (u := u) (v := v) (.left c d) k
 have hi1 : (L.set i ⟨g, t, [c', d]⟩)[i]? = some ⟨g, t, [c', d]⟩ := by
  have hlt : i < L.length := (List.getElem?_eq_some_iff.1 hi).1; simp [hlt]
 have h2 := h1.put22 i hi1 hd'; rwa [List.set_set] at h2
theorem below_put4 {B : Nat} {w0 : World} (hb : Below B w0 w) (hg : B ≤ g) : Below B w0 (putAt (putAt w g 0 u v) g 2 u' v') := below_putAt (below_putAt hb hg) hg
end
theorem ln_zneg (x : Int) : ln (-x).natAbs = ln x.natAbs := by rw [Int.natAbs_neg]
theorem ln_qn (n d : Int) : ln (qn n d).natAbs ≤ ln n.natAbs := ln_mono (qn_le n d)
theorem ln_qd (n d : Int) : ln (qd n d).natAbs ≤ ln d.natAbs := by
 by_cases h : d = 0
 ·have h2 := qd_mul n d; subst h; unfold qd; rw [show ((Int.natAbs 0 : Nat) : Int) = 0 from rfl, Int.zero_ediv]; exact Nat.le_refl _
 exact ln_mono (qd_le n h)
section
variable {w : World} {v1 v2 : Value}
theorem rCommon_got (x y : Int) (v1 v2 : Value) (w : World) (h1 : (isZ x).p v1 w) (h2 : (isZ y).p v2 w) (l1 : ln x.natAbs ≤ 268435456) (l2 : ln y.natAbs ≤ 268435456) : Calls Tryz.prog 35 #[v1, v2] w (Got w (isZ (zgcd x y)).p) :=
 z2 (fun A1 c1 A2 c2 h1 h2 => rCommon_calls x y A1 c1 A2 c2 _ h1 h2 l1 l2) (fun e w' h => h.got) h1 h2
theorem rOrd_got (x y : Int) (v1 v2 : Value) (w : World) (h1 : (isZ x).p v1 w) (h2 : (isZ y).p v2 w) (l1 : ln x.natAbs ≤ 1073741824) (l2 : ln y.natAbs ≤ 1073741824) : Calls Tryz.prog 34 #[v1, v2] w (Got w (isV (.int .i64 (sgnv (x - y)))).p) :=
 z2 (fun A1 c1 A2 c2 h1 h2 => rOrder_calls x y A1 c1 A2 c2 _ h1 h2 l1 l2) (fun e w' h => same_got h) h1 h2
theorem wdiv_got (x y : Int) (hy : y ≠ 0) (v1 v2 : Value) (w : World) (h1 : (isZ x).p v1 w) (h2 : (isZ y).p v2 w) (l1 : ln x.natAbs ≤ 268435456) (l2 : ln y.natAbs ≤ 268435456) : Calls Tryz.prog 39 #[v1, v2] w (Got w (isZZ (x / y) (x % y)).p) :=
 z2 (fun A1 c1 A2 c2 h1 h2 => wdiv_calls x y A1 c1 A2 c2 _ h1 h2 hy l1 l2) (fun e w' h => h.got) h1 h2
theorem rOver_got (x y : Int) (hy : y ≠ 0) (v1 v2 : Value) (w : World) (h1 : (isZ x).p v1 w) (h2 : (isZ y).p v2 w) (l1 : ln x.natAbs ≤ 268435456) (l2 : ln y.natAbs ≤ 268435456) : Calls Tryz.prog 41 #[v1, v2] w (Got w (isZZ (x / y) (x % y)).p) :=
 z2 (fun A1 c1 A2 c2 h1 h2 => rOver_calls x y A1 c1 A2 c2 _ h1 h2 hy l1 l2) (fun e w' h => h.got) h1 h2
theorem rExactly_got (x y : Int) (hy : y ≠ 0) (v1 v2 : Value) (w : World) (h1 : (isZ x).p v1 w) (h2 : (isZ y).p v2 w) (l1 : ln x.natAbs ≤ 268435456) (l2 : ln y.natAbs ≤ 268435456) : Calls Tryz.prog 62 #[v1, v2] w (Got w (isZ (x / y)).p) :=
 z2 (fun A1 c1 A2 c2 h1 h2 => rExactly_calls x y A1 c1 A2 c2 _ h1 h2 hy l1 l2) (fun e w' h => h.got) h1 h2
theorem wminus_got (x : Int) (v1 : Value) (w : World) (h1 : (isZ x).p v1 w) : Calls Tryz.prog 59 #[v1] w (Got w (isZ (-x)).p) := by
 obtain ⟨A, c, rfl, hn⟩ := h1; exact (minus_calls x A c w hn).mono fun e w' ⟨he, hb⟩ => ⟨_, he, hb, A, c, by rw [Int.natAbs_neg], by rw [Int.natAbs_neg]; exact hn.to hb⟩
theorem rMinus_got (x : Int) (v1 : Value) (w : World) (h1 : (isZ x).p v1 w) : Calls Tryz.prog 61 #[v1] w (Got w (isZ (-x)).p) := by
 obtain ⟨A, c, rfl, hn⟩ := h1; exact (rMinus_calls x A c w hn).mono fun e w' ⟨he, hb⟩ => ⟨_, he, hb, A, c, by rw [Int.natAbs_neg], by rw [Int.natAbs_neg]; exact hn.to hb⟩
theorem value_got (x : Int) (v1 : Value) (w : World) (h1 : (isZ x).p v1 w) (l1 : ln x.natAbs ≤ 1073741824) : Calls Tryz.prog 40 #[v1] w (Got w (isZ x).p) :=
 z1 (fun A1 c1 h1 => value_calls x A1 c1 _ h1 l1) (fun e w' h => h.got) h1
theorem of_got (x : Int) (v1 : Value) (w : World) (h1 : (isZ x).p v1 w) : Calls Tryz.prog 26 #[v1] w (Got w (isZ x).p) := z1_same (fun A1 c1 => of_calls _ _ _ _ _) h1
theorem rOf_got (x : Int) (v1 : Value) (w : World) (h1 : (isZ x).p v1 w) : Calls Tryz.prog 30 #[v1] w (Got w (isZ x).p) := z1_same (fun A1 c1 => rOf_calls _ _ _ _ _) h1
theorem rInt_got (x : Int) (v1 : Value) (w : World) (h1 : (isZ x).p v1 w) : Calls Tryz.prog 42 #[v1] w (Got w (isZ x).p) := z1_same (fun A1 c1 => rInt_calls _ _ _ _ _) h1
theorem rFits_got (x : Int) (v1 : Value) (w : World) (h1 : (isZ x).p v1 w) (l1 : ln x.natAbs ≤ 1073741824) : Calls Tryz.prog 56 #[v1] w (Got w (isV (.bool (decide (ln x.natAbs ≤ 256)))).p) :=
 z1 (fun A1 c1 h1 => rFits_calls _ A1 _ c1 _ (by omega)) (fun e w' h => same_got h) h1
theorem rSign_got (x : Int) (v1 : Value) (w : World) (h1 : (isZ x).p v1 w) (l1 : ln x.natAbs ≤ 1073741824) : Calls Tryz.prog 33 #[v1] w (Got w (isV (.int .i64 (sgnv x))).p) :=
 z1 (fun A1 c1 h1 => rSign_calls _ A1 c1 _ (by omega)) (fun e w' h => same_got h) h1
theorem ngcd_got (m n : Nat) (v1 v2 : Value) (w : World) (h1 : (isN m).p v1 w) (h2 : (isN n).p v2 w) (l1 : ln m ≤ 268435456) (l2 : ln n ≤ 268435456) : Calls Tryz.prog 49 #[v1, v2] w (Got w (isN (Nat.gcd m n)).p) :=
 n2 (fun A1 c1 A2 c2 h1 h2 => gcd_calls A1 c1 m A2 c2 n _ h1 h2 l1 l2) (fun e w' h => h.got) h1 h2
theorem same_zz (x y : Int) (v1 v2 : Value) (w : World) (h1 : (isZ x).p v1 w) (h2 : (isZ y).p v2 w) : Calls Tryz.prog 17 #[v1, v2] w (Got w (isV (.bool (decide (x = y)))).p) :=
 z2 (fun A1 c1 A2 c2 h1 h2 => same_calls x y A1 c1 A2 c2 _ h1 h2) (fun e w' h => same_got h) h1 h2
theorem rvalid_raw (r : Raw) (v1 : Value) (w : World) (h1 : (isL [rC r]).p v1 w) : Calls Tryz.prog 28 #[v1] w (Got w (isV (.bool r.ok)).p) := by
 obtain ⟨x, y, rfl, rfl, rfl, h⟩ := isL_one.1 h1; exact (rvalid_calls r _ h).mono fun e w' h => same_got h
theorem rC_zC {r : Raw} {u v : Value} {w : World} (ho : r.ok = true) (h : (rC r).p u v w) : (zC r.val).p u v w := by
 obtain ⟨rfl, rfl, ha⟩ := h; have h1 := Raw.num ho ha.2.1; refine ⟨r.A, r.c, ?_, ?_, Raw.nn ho ha⟩
 ·rw [Raw.ok_neg ho ha.2.1]
 rw [h1.2]
end
def isP (s t : SP) : SP := ⟨fun v w => ∃ x y, v = .tuple #[x, y] ∧ s.p x w ∧ t.p y w, fun v w w' ⟨x, y, h, h1, h2⟩ hb => ⟨x, y, h, s.st _ _ _ h1 hb, t.st _ _ _ h2 hb⟩⟩
section
variable {P : Program} {o : Oper} {a : Act} {w : World} {s t : SP} {x : Operand}
theorem op_fst (ho : o.op = .extract x 0) (hx : (isP s t).p (a.eval x) w) : ∃ v, (∀ w, (execOp a.eval o).run P w = .ok (.value v) w) ∧ s.p v w := by
 obtain ⟨y, z, h, h1, h2⟩ := hx; exact ⟨y, op_extract ho h rfl, h1⟩
theorem op_snd (ho : o.op = .extract x 1) (hx : (isP s t).p (a.eval x) w) : ∃ v, (∀ w, (execOp a.eval o).run P w = .ok (.value v) w) ∧ t.p v w := by
 obtain ⟨y, z, h, h1, h2⟩ := hx; exact ⟨z, op_extract ho h rfl, h2⟩
theorem zz_fst {q r : Int} (ho : o.op = .extract x 0) (hx : (isZZ q r).p (a.eval x) w) : ∃ v, (∀ w, (execOp a.eval o).run P w = .ok (.value v) w) ∧ (isZ q).p v w := by
 obtain ⟨A, c, A', c', h, h1, h2⟩ := hx; exact ⟨_, op_extract ho h rfl, A, c, rfl, h1⟩
theorem zz_snd {q r : Int} (ho : o.op = .extract x 1) (hx : (isZZ q r).p (a.eval x) w) : ∃ v, (∀ w, (execOp a.eval o).run P w = .ok (.value v) w) ∧ (isZ r).p v w := by
 obtain ⟨A, c, A', c', h, h1, h2⟩ := hx; exact ⟨_, op_extract ho h rfl, A', c', rfl, h2⟩
theorem op_mv {s : SP} (ho : o.op = .move x) (hx : s.p (a.eval x) w) : ∃ v, (∀ w, (execOp a.eval o).run P w = .ok (.value v) w) ∧ s.p v w := ⟨_, op_move ho rfl, hx⟩
end
theorem wp_b {P : Program} {Q : Exit → Act → World → Prop} {o : Oper} {a : Act} {w : World} {d : Nat} {b b' : Bool} (h : b = b') (hc : o.wp P a w (Post a w d (isV (.bool b)).p) Q) : o.wp P a w (Post a w d (isV (.bool b')).p) Q := by
 subst h; exact hc
theorem pure_b {R : Value → Prop} {b b' : Bool} {w : World} (h : b = b') (hc : ∃ v, R v ∧ (isV (.bool b)).p v w) : ∃ v, R v ∧ (isV (.bool b')).p v w := by
 subst h; exact hc
theorem Env.addne {w : World} {e : Ent} : ∀ {L : List Ent}, Env w L → HL w e.g e.t e.l → (∀ e' ∈ L, e'.g ≠ e.g) → Env w (L ++ [e])
 | [], _, he, _ => ⟨he, fun e' h => (by cases h), trivial⟩
 | e0 :: L, ⟨h1, h2, h3⟩, he, hl => ⟨h1, fun e' h => by
   rcases List.mem_append.1 h with h | h
   ·exact h2 e' h
   rcases List.mem_singleton.1 h with rfl
   exact Ne.symm (hl e0 (List.mem_cons_self ..)), Env.addne h3 he (fun e' h => hl e' (List.mem_cons_of_mem _ h))⟩
section
variable {w : World} {g : Nat} {t : TypeId} {c d : CP}
theorem HL.cells1 (k : HL w g t [c]) : ∃ u v, w.cell? ⟨g, 0, none⟩ = some u ∧ w.cell? ⟨g, 1, none⟩ = some v ∧ c.p u v w := by
 obtain ⟨u, v, hb, h⟩ := k.one; exact ⟨u, v, cell_of hb rfl, cell_of hb rfl, h⟩
theorem HL.cells2 (k : HL w g t [c, d]) : ∃ u v x y, w.cell? ⟨g, 0, none⟩ = some u ∧ w.cell? ⟨g, 1, none⟩ = some v ∧ w.cell? ⟨g, 2, none⟩ = some x ∧ w.cell? ⟨g, 3, none⟩ = some y ∧ c.p u v w ∧ d.p x y w := by
 obtain ⟨u, v, x, y, hb, h, h'⟩ := k.two; exact ⟨u, v, x, y, cell_of hb rfl, cell_of hb rfl, cell_of hb rfl, cell_of hb rfl, h, h'⟩
end
set_option maxRecDepth 100000 in
set_option maxHeartbeats 1000000 in
theorem lowest_got (n d : Int) (v1 v2 : Value) (w : World) (h1 : (isZ n).p v1 w) (h2 : (isZ d).p v2 w) (hd0 : d ≠ 0) (la : ln n.natAbs ≤ 100000) (lb : ln d.natAbs ≤ 100000) :
  Calls Tryz.prog 25 #[v1, v2] w (Got w (isL [zC (qn n d), zC (qd n d)]).p) := by
 obtain ⟨u1, x1, rfl, p1⟩ := isL_one.1 (isL_isZ.2 h1); obtain ⟨u2, x2, rfl, p2⟩ := isL_one.1 (isL_isZ.2 h2); have HD0 := Hd.mk hd0; clear h1 h2 hd0; have hg : zgcd n d ≠ 0 := by have := zgcd_pos (p := n) HD0.out; omega
 have HG := Hd.mk hg; have lg : ln (zgcd n d).natAbs ≤ 100000 := Nat.le_trans (zgcd_ln n d) (by omega); have lng : ln (n / zgcd n d).natAbs ≤ 100000 := Nat.le_trans (ln_mono (Int.natAbs_ediv_le_natAbs _ _)) la; have ldg : ln (d / zgcd n d).natAbs ≤ 100000 := Nat.le_trans (ln_mono (Int.natAbs_ediv_le_natAbs _ _)) lb; have HN := Hd.mk (low_n n d); have HD := Hd.mk (low_d n HD0.out); clear hg; by_cases hneg : d / zgcd n d < 0
 ·have HNN : Hd (-(n / zgcd n d) = qn n d) := ⟨by rw [← HN.out, if_pos hneg]⟩; have HDD : Hd (-(d / zgcd n d) = qd n d) := ⟨by rw [← HD.out, if_pos hneg]⟩; have hdec : decide (d / zgcd n d < 0) = true := decide_eq_true hneg; clear HN HD hneg; go_enter Tryz.func25, Tryz.ntmps25
  go_upto_region 1 with fail
  obtain ⟨W0, hW0⟩ : ∃ W : World, W = ((w.alloc (.cells #[u1, x1] 51)).alloc (.cells #[u2, x2] 51)).alloc (.cells #[Value.bool false, Value.slice none 0 0, Value.bool false, Value.slice none 0 0] 53) := ⟨_, rfl⟩; rw [← hW0]; obtain ⟨he, hb⟩ := env_three (cp1 p1) (cp1 p2) (cp2 (cpz _) (cpz _)) hW0; have HE := Hd.mk he; have HB := Hd.mk hb; clear he hb hW0; refine wp_region_vd 7 [6, 7, 8, 9, 10, 11, 5] [0, 2, 5] [6] 51 [.bool false, .slice none 0 0] [isV (.pointer (some ⟨w.heap.size, 1, none⟩)), isN n.natAbs, isV (.pointer (some ⟨w.heap.size + 1, 1, none⟩)), isN d.natAbs, isN (Nat.gcd n.natAbs d.natAbs), isZ (((Nat.gcd n.natAbs d.natAbs : Nat) : Int)), SP.any] (by rfl) alloc_whole ?_ ?_
  ·intro i hi hA aa wx hb hs hd
   match i, hi, hA with
   | 0, _, _ => exact aL ⟨_, op_faW1 rfl (hs 2 rfl), rfl⟩ | 1, _, _ => exact aL (op_ldnn (off := 0) rfl rfl (hd 0 rfl) ((HE.out.to hb).get 0 rfl).a0) | 2, _, _ => exact aL ⟨_, op_faW1 rfl (hs 3 rfl), rfl⟩ | 3, _, _ => exact aL (op_ldnn (off := 0) rfl rfl (hd 2 rfl) ((HE.out.to hb).get 1 rfl).a0) | 4, _, _ => exact aL (op_call2 rfl rfl Tryz.call49 (ngcd_got n.natAbs d.natAbs _ _ _ (hd 1 rfl) (hd 3 rfl) (by omega) (by omega))) | 5, _, _ => exact aL (op_bdW rfl (hd 4 rfl)) | 6, _, h => cases h | i + 7, h, _ => omega
  intro vs X1 hb hv hal hne; have HL0 := Hd.mk (HE.out.lt); have HBW := HB; replace HB := Hd.mk (bel_then HB.out hb); replace HE := Hd.mk (HE.out.to hb); obtain ⟨g5, e5, l5, b5⟩ : ∃ g, vs 5 = .pointer (some ⟨g, 0, none⟩) ∧ _ := hal 6 rfl; have t11 : (isZ (((Nat.gcd n.natAbs d.natAbs : Nat) : Int))).p (vs 11) X1 := hv 5 (by decide) rfl; obtain ⟨u11, y11, e11, c11⟩ := isL_one.1 (isL_isZ.2 t11); simp only [PA, e5, e11]; replace HE : Hd (Env X1 [⟨w.heap.size, 51, [zC n]⟩, ⟨w.heap.size + 1, 51, [zC d]⟩, ⟨w.heap.size + 1 + 1, 53, [aC, aC]⟩, ⟨g5, 51, [aC]⟩]) := ⟨Env.addne (e := ⟨g5, 51, [aC]⟩) HE.out ⟨_, b5, cp1 (cpz _)⟩ (fun e' he => Nat.ne_of_lt (Nat.lt_of_lt_of_le (HL0.out e' he) l5))⟩; have G5 : Hd (w.heap.size ≤ g5) := ⟨Nat.le_trans HBW.out.size l5⟩; clear l5 b5; clear HL0 HBW e5; refine wpList_st rfl rfl rfl rfl rfl (sto_W c11 (Slot.one _) (HE.out.get 3 rfl)) ?_; have HE' : Env (putAt X1 g5 0 u11 y11) [⟨w.heap.size, 51, [zC n]⟩, ⟨w.heap.size + 1, 51, [zC d]⟩, ⟨w.heap.size + 1 + 1, 53, [aC, aC]⟩, ⟨g5, 51, [zC (((Nat.gcd n.natAbs d.natAbs : Nat) : Int))]⟩] := HE.out.put1 3 rfl c11; have HB' := below_putAt (o := 0) (u := u11) (v := y11) HB.out (show w.heap.size ≤ g5 from G5.out); generalize putAt X1 g5 0 u11 y11 = X2 at *; replace HE := Hd.mk HE'; replace HB := Hd.mk HB'; clear HE' HB'; clear hv hal hne hb; replace HE : Hd (Env X2 [⟨w.heap.size, 51, [zC n]⟩, ⟨w.heap.size + 1, 51, [zC d]⟩, ⟨w.heap.size + 1 + 1, 53, [aC, aC]⟩, ⟨g5, 51, [zC (zgcd n d)]⟩]) := HE; go_upto_region 2 with fail
  refine wp_region_vd 6 [13, 14, 15, 12, 16, 17] [3, 4, 5] [] 51 [.bool false, .slice none 0 0] [isZ n, isZ (zgcd n d), isZZ (n / (zgcd n d)) (n % (zgcd n d)), isZZ (n / (zgcd n d)) (n % (zgcd n d)), isZ (n / (zgcd n d)), isZ (n % (zgcd n d))] (by rfl) alloc_whole ?_ ?_
  ·intro i hi hA aa wx hb hs hd
   match i, hi, hA with
   | 0, _, _ => exact aL (op_ldWz rfl rfl (hs 2 rfl) ((HE.out.to hb).get 0 rfl).a0) | 1, _, _ => exact aL (op_ldWz rfl rfl (hs 5 rfl) ((HE.out.to hb).get 3 rfl).a0) | 2, _, _ => exact aL (op_call2 rfl rfl Tryz.call39 (wdiv_got n (zgcd n d) HG.out _ _ _ (hd 0 rfl) (hd 1 rfl) (by omega) (by omega))) | 3, _, _ => exact aL (op_mv rfl (hd 2 rfl)) | 4, _, _ => exact aL (zz_fst rfl (hd 3 rfl)) | 5, _, _ => exact aL (zz_snd rfl (hd 3 rfl)) | i + 6, h, _ => omega
  intro vs X3 hb hv hal hne; replace HB := Hd.mk (bel_then HB.out hb); replace HE := Hd.mk (HE.out.to hb); have t16 : (isZ (n / (zgcd n d))).p (vs 16) X3 := hv 4 (by decide) rfl; obtain ⟨u16, y16, e16, c16⟩ := isL_one.1 (isL_isZ.2 t16); simp only [PA, e16]; refine wpList_st rfl rfl rfl rfl rfl (sto_W c16 (Slot.one _) (HE.out.get 0 rfl)) ?_; have HE' : Env (putAt X3 w.heap.size 0 u16 y16) [⟨w.heap.size, 51, [zC (n / (zgcd n d))]⟩, ⟨w.heap.size + 1, 51, [zC d]⟩, ⟨w.heap.size + 1 + 1, 53, [aC, aC]⟩, ⟨g5, 51, [zC (zgcd n d)]⟩] := HE.out.put1 0 rfl c16; have HB' := below_putAt (o := 0) (u := u16) (v := y16) HB.out (show w.heap.size ≤ w.heap.size from by omega); generalize putAt X3 w.heap.size 0 u16 y16 = X4 at *; replace HE := Hd.mk HE'; replace HB := Hd.mk HB'; clear HE' HB'; clear hv hal hne hb; go_upto_region 3 with fail
  refine wp_region_vd 6 [19, 20, 21, 18, 22, 23] [3, 4, 5] [] 51 [.bool false, .slice none 0 0] [isZ d, isZ (zgcd n d), isZZ (d / (zgcd n d)) (d % (zgcd n d)), isZZ (d / (zgcd n d)) (d % (zgcd n d)), isZ (d / (zgcd n d)), isZ (d % (zgcd n d))] (by rfl) alloc_whole ?_ ?_
  ·intro i hi hA aa wx hb hs hd
   match i, hi, hA with
   | 0, _, _ => exact aL (op_ldWz rfl rfl (hs 3 rfl) ((HE.out.to hb).get 1 rfl).a0) | 1, _, _ => exact aL (op_ldWz rfl rfl (hs 5 rfl) ((HE.out.to hb).get 3 rfl).a0) | 2, _, _ => exact aL (op_call2 rfl rfl Tryz.call39 (wdiv_got d (zgcd n d) HG.out _ _ _ (hd 0 rfl) (hd 1 rfl) (by omega) (by omega))) | 3, _, _ => exact aL (op_mv rfl (hd 2 rfl)) | 4, _, _ => exact aL (zz_fst rfl (hd 3 rfl)) | 5, _, _ => exact aL (zz_snd rfl (hd 3 rfl)) | i + 6, h, _ => omega
  intro vs X5 hb hv hal hne; replace HB := Hd.mk (bel_then HB.out hb); replace HE := Hd.mk (HE.out.to hb); have t22 : (isZ (d / (zgcd n d))).p (vs 22) X5 := hv 4 (by decide) rfl; obtain ⟨u22, y22, e22, c22⟩ := isL_one.1 (isL_isZ.2 t22); simp only [PA, e22]; refine wpList_st rfl rfl rfl rfl rfl (sto_W c22 (Slot.one _) (HE.out.get 1 rfl)) ?_; have HE' : Env (putAt X5 (w.heap.size + 1) 0 u22 y22) [⟨w.heap.size, 51, [zC (n / (zgcd n d))]⟩, ⟨w.heap.size + 1, 51, [zC (d / (zgcd n d))]⟩, ⟨w.heap.size + 1 + 1, 53, [aC, aC]⟩, ⟨g5, 51, [zC (zgcd n d)]⟩] := HE.out.put1 1 rfl c22; have HB' := below_putAt (o := 0) (u := u22) (v := y22) HB.out (show w.heap.size ≤ w.heap.size + 1 from by omega); generalize putAt X5 (w.heap.size + 1) 0 u22 y22 = X6 at *; replace HE := Hd.mk HE'; replace HB := Hd.mk HB'; clear HE' HB'; clear hv hal hne hb; go_upto_region 4 with fail
  refine wp_region_vd 2 [24, 25] [0] [] 51 [.bool false, .slice none 0 0] [isV (.pointer (some ⟨w.heap.size + 1, 0, none⟩)), qT] (by rfl) alloc_whole ?_ ?_
  ·intro i hi hA aa wx hb hs hd
   match i, hi, hA with
   | 0, _, _ => exact aL ⟨_, op_faW0 rfl (hs 3 rfl), rfl⟩ | 1, _, _ => exact aL (wp_b hdec (op_ldb rfl rfl (hd 0 rfl) ((HE.out.to hb).get 1 rfl).a0)) | i + 2, h, _ => omega
  intro vs X7 hb hv hal hne; replace HB := Hd.mk (bel_then HB.out hb); replace HE := Hd.mk (HE.out.to hb); have e25 : vs 25 = .bool true := hv 1 (by decide) rfl; simp only [PA, e25]; clear hv hal hne hb; go_upto_region 5 with fail
  refine wp_region_vs 4 [26, 27, 28, 29] [] [] 51 [.bool false, .slice none 0 0] [isZ (n / (zgcd n d)), isZ (-(n / (zgcd n d))), isZ (d / (zgcd n d)), isZ (-(d / (zgcd n d)))] (by kernel_rfl) (by kernel_rfl) (by kernel_rfl) (by rfl) alloc_whole (fun d v c a w h => by cases d <;> exact h) ?_ ?_
  ·intro i hi hA aa wx hb hs hd
   match i, hi, hA with
   | 0, _, _ => exact op_ldWz rfl rfl (hs 2 rfl) ((HE.out.to hb).get 0 rfl).a0 | 1, _, _ => exact op_call1 rfl rfl Tryz.call59 (wminus_got (n / (zgcd n d)) _ _ (hd 0 rfl)) | 2, _, _ => exact op_ldWz rfl rfl (hs 3 rfl) ((HE.out.to hb).get 1 rfl).a0 | 3, _, _ => exact op_call1 rfl rfl Tryz.call59 (wminus_got (d / (zgcd n d)) _ _ (hd 2 rfl)) | i + 4, h, _ => omega
  intro vs X8 hb hv hal hne; replace HB := Hd.mk (bel_then HB.out hb); replace HE := Hd.mk (HE.out.to hb); have t27 : (isZ (-(n / (zgcd n d)))).p (vs 27) X8 := hv 1 (by decide) rfl; obtain ⟨u27, y27, e27, c27⟩ := isL_one.1 (isL_isZ.2 t27); have t29 : (isZ (-(d / (zgcd n d)))).p (vs 29) X8 := hv 3 (by decide) rfl; obtain ⟨u29, y29, e29, c29⟩ := isL_one.1 (isL_isZ.2 t29); simp only [PA, e27, e29]; refine wpList_st rfl rfl rfl rfl rfl (sto_W c27 (Slot.one _) (HE.out.get 0 rfl)) ?_; have HE' : Env (putAt X8 w.heap.size 0 u27 y27) [⟨w.heap.size, 51, [zC (-(n / (zgcd n d)))]⟩, ⟨w.heap.size + 1, 51, [zC (d / (zgcd n d))]⟩, ⟨w.heap.size + 1 + 1, 53, [aC, aC]⟩, ⟨g5, 51, [zC (zgcd n d)]⟩] := HE.out.put1 0 rfl c27; have HB' := below_putAt (o := 0) (u := u27) (v := y27) HB.out (show w.heap.size ≤ w.heap.size from by omega); replace c29 := cp_at c29 (u := u27) (v := y27) (Slot.one _) (HE.out.get 0 rfl); generalize putAt X8 w.heap.size 0 u27 y27 = X9 at *; replace HE := Hd.mk HE'; replace HB := Hd.mk HB'; clear HE' HB'; refine wpList_st rfl rfl rfl rfl rfl (sto_W c29 (Slot.one _) (HE.out.get 1 rfl)) ?_; have HE' : Env (putAt X9 (w.heap.size + 1) 0 u29 y29) [⟨w.heap.size, 51, [zC (-(n / (zgcd n d)))]⟩, ⟨w.heap.size + 1, 51, [zC (-(d / (zgcd n d)))]⟩, ⟨w.heap.size + 1 + 1, 53, [aC, aC]⟩, ⟨g5, 51, [zC (zgcd n d)]⟩] := HE.out.put1 1 rfl c29; have HB' := below_putAt (o := 0) (u := u29) (v := y29) HB.out (show w.heap.size ≤ w.heap.size + 1 from by omega); generalize putAt X9 (w.heap.size + 1) 0 u29 y29 = X10 at *; replace HE := Hd.mk HE'; replace HB := Hd.mk HB'; clear HE' HB'; clear hv hal hne hb; go_upto_region 6 with fail
  refine wp_region_vd 3 [30, 31, 32] [2] [] 51 [.bool false, .slice none 0 0] [isZ (-(n / (zgcd n d))), isZ (-(d / (zgcd n d))), isL [zC (-(n / (zgcd n d))), zC (-(d / (zgcd n d)))]] (by rfl) alloc_whole ?_ ?_
  ·intro i hi hA aa wx hb hs hd
   match i, hi, hA with
   | 0, _, _ => exact aL (op_ldWz rfl rfl (hs 2 rfl) ((HE.out.to hb).get 0 rfl).a0) | 1, _, _ => exact aL (op_ldWz rfl rfl (hs 3 rfl) ((HE.out.to hb).get 1 rfl).a0) | 2, _, _ => exact aL (op_bdQ rfl (isL_isZ.2 (hd 0 rfl)) (isL_isZ.2 (hd 1 rfl))) | i + 3, h, _ => omega
  intro vs X11 hb hv hal hne; replace HB := Hd.mk (bel_then HB.out hb); replace HE := Hd.mk (HE.out.to hb); have t32 : (isL [zC (-(n / (zgcd n d))), zC (-(d / (zgcd n d)))]).p (vs 32) X11 := hv 2 (by decide) rfl; obtain ⟨u32, y32, p32, q32, e32, c32, k32⟩ := isL_two.1 t32; simp only [PA, e32]; refine wpList_st rfl rfl rfl rfl rfl (sto_Q c32 k32 (HE.out.get 2 rfl)) ?_; have HE' : Env (putAt (putAt X11 (w.heap.size + 1 + 1) 0 u32 y32) (w.heap.size + 1 + 1) 2 p32 q32) [⟨w.heap.size, 51, [zC (-(n / (zgcd n d)))]⟩, ⟨w.heap.size + 1, 51, [zC (-(d / (zgcd n d)))]⟩, ⟨w.heap.size + 1 + 1, 53, [zC (-(n / (zgcd n d))), zC (-(d / (zgcd n d)))]⟩, ⟨g5, 51, [zC (zgcd n d)]⟩] := HE.out.put4 2 rfl c32 k32; have HB' := below_put4 (u := u32) (v := y32) (u' := p32) (v' := q32) HB.out (show w.heap.size ≤ w.heap.size + 1 + 1 from by omega); generalize putAt (putAt X11 (w.heap.size + 1 + 1) 0 u32 y32) (w.heap.size + 1 + 1) 2 p32 q32 = X12 at *; replace HE := Hd.mk HE'; replace HB := Hd.mk HB'; clear HE' HB'; clear hv hal hne hb; go_wp2_with fail
  obtain ⟨u, v, x, y, k0, k1, k2, k3, h1, h2⟩ := (HE.out.get 2 rfl).cells2; refine bodyPost_ret (v := .agg #[u, v, x, y]) (by simp [results, Tryz.results25, go_sem, k0, k1, k2, k3]) rfl ?_; rw [HNN.out] at h1; rw [HDD.out] at h2; exact ⟨_, rfl, HB.out, isL_two.2 ⟨_, _, _, _, rfl, h1, h2⟩⟩
 have HNN : Hd (n / zgcd n d = qn n d) := ⟨by rw [← HN.out, if_neg hneg]⟩; have HDD : Hd (d / zgcd n d = qd n d) := ⟨by rw [← HD.out, if_neg hneg]⟩; have hdec : decide (d / zgcd n d < 0) = false := decide_eq_false hneg; clear HN HD hneg; go_enter Tryz.func25, Tryz.ntmps25
 go_upto_region 1 with fail
 obtain ⟨W0, hW0⟩ : ∃ W : World, W = ((w.alloc (.cells #[u1, x1] 51)).alloc (.cells #[u2, x2] 51)).alloc (.cells #[Value.bool false, Value.slice none 0 0, Value.bool false, Value.slice none 0 0] 53) := ⟨_, rfl⟩; rw [← hW0]; obtain ⟨he, hb⟩ := env_three (cp1 p1) (cp1 p2) (cp2 (cpz _) (cpz _)) hW0; have HE := Hd.mk he; have HB := Hd.mk hb; clear he hb hW0; refine wp_region_vd 7 [6, 7, 8, 9, 10, 11, 5] [0, 2, 5] [6] 51 [.bool false, .slice none 0 0] [isV (.pointer (some ⟨w.heap.size, 1, none⟩)), isN n.natAbs, isV (.pointer (some ⟨w.heap.size + 1, 1, none⟩)), isN d.natAbs, isN (Nat.gcd n.natAbs d.natAbs), isZ (((Nat.gcd n.natAbs d.natAbs : Nat) : Int)), SP.any] (by rfl) alloc_whole ?_ ?_
 ·intro i hi hA aa wx hb hs hd
  match i, hi, hA with
  | 0, _, _ => exact aL ⟨_, op_faW1 rfl (hs 2 rfl), rfl⟩ | 1, _, _ => exact aL (op_ldnn (off := 0) rfl rfl (hd 0 rfl) ((HE.out.to hb).get 0 rfl).a0) | 2, _, _ => exact aL ⟨_, op_faW1 rfl (hs 3 rfl), rfl⟩ | 3, _, _ => exact aL (op_ldnn (off := 0) rfl rfl (hd 2 rfl) ((HE.out.to hb).get 1 rfl).a0) | 4, _, _ => exact aL (op_call2 rfl rfl Tryz.call49 (ngcd_got n.natAbs d.natAbs _ _ _ (hd 1 rfl) (hd 3 rfl) (by omega) (by omega))) | 5, _, _ => exact aL (op_bdW rfl (hd 4 rfl)) | 6, _, h => cases h | i + 7, h, _ => omega
 intro vs X1 hb hv hal hne; have HL0 := Hd.mk (HE.out.lt); have HBW := HB; replace HB := Hd.mk (bel_then HB.out hb); replace HE := Hd.mk (HE.out.to hb); obtain ⟨g5, e5, l5, b5⟩ : ∃ g, vs 5 = .pointer (some ⟨g, 0, none⟩) ∧ _ := hal 6 rfl; have t11 : (isZ (((Nat.gcd n.natAbs d.natAbs : Nat) : Int))).p (vs 11) X1 := hv 5 (by decide) rfl; obtain ⟨u11, y11, e11, c11⟩ := isL_one.1 (isL_isZ.2 t11); simp only [PA, e5, e11]; replace HE : Hd (Env X1 [⟨w.heap.size, 51, [zC n]⟩, ⟨w.heap.size + 1, 51, [zC d]⟩, ⟨w.heap.size + 1 + 1, 53, [aC, aC]⟩, ⟨g5, 51, [aC]⟩]) := ⟨Env.addne (e := ⟨g5, 51, [aC]⟩) HE.out ⟨_, b5, cp1 (cpz _)⟩ (fun e' he => Nat.ne_of_lt (Nat.lt_of_lt_of_le (HL0.out e' he) l5))⟩; have G5 : Hd (w.heap.size ≤ g5) := ⟨Nat.le_trans HBW.out.size l5⟩; clear l5 b5; clear HL0 HBW e5; refine wpList_st rfl rfl rfl rfl rfl (sto_W c11 (Slot.one _) (HE.out.get 3 rfl)) ?_; have HE' : Env (putAt X1 g5 0 u11 y11) [⟨w.heap.size, 51, [zC n]⟩, ⟨w.heap.size + 1, 51, [zC d]⟩, ⟨w.heap.size + 1 + 1, 53, [aC, aC]⟩, ⟨g5, 51, [zC (((Nat.gcd n.natAbs d.natAbs : Nat) : Int))]⟩] := HE.out.put1 3 rfl c11; have HB' := below_putAt (o := 0) (u := u11) (v := y11) HB.out (show w.heap.size ≤ g5 from G5.out); generalize putAt X1 g5 0 u11 y11 = X2 at *; replace HE := Hd.mk HE'; replace HB := Hd.mk HB'; clear HE' HB'; clear hv hal hne hb; replace HE : Hd (Env X2 [⟨w.heap.size, 51, [zC n]⟩, ⟨w.heap.size + 1, 51, [zC d]⟩, ⟨w.heap.size + 1 + 1, 53, [aC, aC]⟩, ⟨g5, 51, [zC (zgcd n d)]⟩]) := HE; go_upto_region 2 with fail
 refine wp_region_vd 6 [13, 14, 15, 12, 16, 17] [3, 4, 5] [] 51 [.bool false, .slice none 0 0] [isZ n, isZ (zgcd n d), isZZ (n / (zgcd n d)) (n % (zgcd n d)), isZZ (n / (zgcd n d)) (n % (zgcd n d)), isZ (n / (zgcd n d)), isZ (n % (zgcd n d))] (by rfl) alloc_whole ?_ ?_
 ·intro i hi hA aa wx hb hs hd
  match i, hi, hA with
  | 0, _, _ => exact aL (op_ldWz rfl rfl (hs 2 rfl) ((HE.out.to hb).get 0 rfl).a0) | 1, _, _ => exact aL (op_ldWz rfl rfl (hs 5 rfl) ((HE.out.to hb).get 3 rfl).a0) | 2, _, _ => exact aL (op_call2 rfl rfl Tryz.call39 (wdiv_got n (zgcd n d) HG.out _ _ _ (hd 0 rfl) (hd 1 rfl) (by omega) (by omega))) | 3, _, _ => exact aL (op_mv rfl (hd 2 rfl)) | 4, _, _ => exact aL (zz_fst rfl (hd 3 rfl)) | 5, _, _ => exact aL (zz_snd rfl (hd 3 rfl)) | i + 6, h, _ => omega
 intro vs X3 hb hv hal hne; replace HB := Hd.mk (bel_then HB.out hb); replace HE := Hd.mk (HE.out.to hb); have t16 : (isZ (n / (zgcd n d))).p (vs 16) X3 := hv 4 (by decide) rfl; obtain ⟨u16, y16, e16, c16⟩ := isL_one.1 (isL_isZ.2 t16); simp only [PA, e16]; refine wpList_st rfl rfl rfl rfl rfl (sto_W c16 (Slot.one _) (HE.out.get 0 rfl)) ?_; have HE' : Env (putAt X3 w.heap.size 0 u16 y16) [⟨w.heap.size, 51, [zC (n / (zgcd n d))]⟩, ⟨w.heap.size + 1, 51, [zC d]⟩, ⟨w.heap.size + 1 + 1, 53, [aC, aC]⟩, ⟨g5, 51, [zC (zgcd n d)]⟩] := HE.out.put1 0 rfl c16; have HB' := below_putAt (o := 0) (u := u16) (v := y16) HB.out (show w.heap.size ≤ w.heap.size from by omega); generalize putAt X3 w.heap.size 0 u16 y16 = X4 at *; replace HE := Hd.mk HE'; replace HB := Hd.mk HB'; clear HE' HB'; clear hv hal hne hb; go_upto_region 3 with fail
 refine wp_region_vd 6 [19, 20, 21, 18, 22, 23] [3, 4, 5] [] 51 [.bool false, .slice none 0 0] [isZ d, isZ (zgcd n d), isZZ (d / (zgcd n d)) (d % (zgcd n d)), isZZ (d / (zgcd n d)) (d % (zgcd n d)), isZ (d / (zgcd n d)), isZ (d % (zgcd n d))] (by rfl) alloc_whole ?_ ?_
 ·intro i hi hA aa wx hb hs hd
  match i, hi, hA with
  | 0, _, _ => exact aL (op_ldWz rfl rfl (hs 3 rfl) ((HE.out.to hb).get 1 rfl).a0) | 1, _, _ => exact aL (op_ldWz rfl rfl (hs 5 rfl) ((HE.out.to hb).get 3 rfl).a0) | 2, _, _ => exact aL (op_call2 rfl rfl Tryz.call39 (wdiv_got d (zgcd n d) HG.out _ _ _ (hd 0 rfl) (hd 1 rfl) (by omega) (by omega))) | 3, _, _ => exact aL (op_mv rfl (hd 2 rfl)) | 4, _, _ => exact aL (zz_fst rfl (hd 3 rfl)) | 5, _, _ => exact aL (zz_snd rfl (hd 3 rfl)) | i + 6, h, _ => omega
 intro vs X5 hb hv hal hne; replace HB := Hd.mk (bel_then HB.out hb); replace HE := Hd.mk (HE.out.to hb); have t22 : (isZ (d / (zgcd n d))).p (vs 22) X5 := hv 4 (by decide) rfl; obtain ⟨u22, y22, e22, c22⟩ := isL_one.1 (isL_isZ.2 t22); simp only [PA, e22]; refine wpList_st rfl rfl rfl rfl rfl (sto_W c22 (Slot.one _) (HE.out.get 1 rfl)) ?_; have HE' : Env (putAt X5 (w.heap.size + 1) 0 u22 y22) [⟨w.heap.size, 51, [zC (n / (zgcd n d))]⟩, ⟨w.heap.size + 1, 51, [zC (d / (zgcd n d))]⟩, ⟨w.heap.size + 1 + 1, 53, [aC, aC]⟩, ⟨g5, 51, [zC (zgcd n d)]⟩] := HE.out.put1 1 rfl c22; have HB' := below_putAt (o := 0) (u := u22) (v := y22) HB.out (show w.heap.size ≤ w.heap.size + 1 from by omega); generalize putAt X5 (w.heap.size + 1) 0 u22 y22 = X6 at *; replace HE := Hd.mk HE'; replace HB := Hd.mk HB'; clear HE' HB'; clear hv hal hne hb; go_upto_region 4 with fail
 refine wp_region_vd 2 [24, 25] [0] [] 51 [.bool false, .slice none 0 0] [isV (.pointer (some ⟨w.heap.size + 1, 0, none⟩)), qF] (by rfl) alloc_whole ?_ ?_
 ·intro i hi hA aa wx hb hs hd
  match i, hi, hA with
  | 0, _, _ => exact aL ⟨_, op_faW0 rfl (hs 3 rfl), rfl⟩ | 1, _, _ => exact aL (wp_b hdec (op_ldb rfl rfl (hd 0 rfl) ((HE.out.to hb).get 1 rfl).a0)) | i + 2, h, _ => omega
 intro vs X7 hb hv hal hne; replace HB := Hd.mk (bel_then HB.out hb); replace HE := Hd.mk (HE.out.to hb); have e25 : vs 25 = .bool false := hv 1 (by decide) rfl; simp only [PA, e25]; clear hv hal hne hb; go_upto_region 6 with fail
 refine wp_region_vd 3 [30, 31, 32] [2] [] 51 [.bool false, .slice none 0 0] [isZ (n / (zgcd n d)), isZ (d / (zgcd n d)), isL [zC (n / (zgcd n d)), zC (d / (zgcd n d))]] (by rfl) alloc_whole ?_ ?_
 ·intro i hi hA aa wx hb hs hd
  match i, hi, hA with
  | 0, _, _ => exact aL (op_ldWz rfl rfl (hs 2 rfl) ((HE.out.to hb).get 0 rfl).a0) | 1, _, _ => exact aL (op_ldWz rfl rfl (hs 3 rfl) ((HE.out.to hb).get 1 rfl).a0) | 2, _, _ => exact aL (op_bdQ rfl (isL_isZ.2 (hd 0 rfl)) (isL_isZ.2 (hd 1 rfl))) | i + 3, h, _ => omega
 intro vs X8 hb hv hal hne; replace HB := Hd.mk (bel_then HB.out hb); replace HE := Hd.mk (HE.out.to hb); have t32 : (isL [zC (n / (zgcd n d)), zC (d / (zgcd n d))]).p (vs 32) X8 := hv 2 (by decide) rfl; obtain ⟨u32, y32, p32, q32, e32, c32, k32⟩ := isL_two.1 t32; simp only [PA, e32]; refine wpList_st rfl rfl rfl rfl rfl (sto_Q c32 k32 (HE.out.get 2 rfl)) ?_; have HE' : Env (putAt (putAt X8 (w.heap.size + 1 + 1) 0 u32 y32) (w.heap.size + 1 + 1) 2 p32 q32) [⟨w.heap.size, 51, [zC (n / (zgcd n d))]⟩, ⟨w.heap.size + 1, 51, [zC (d / (zgcd n d))]⟩, ⟨w.heap.size + 1 + 1, 53, [zC (n / (zgcd n d)), zC (d / (zgcd n d))]⟩, ⟨g5, 51, [zC (zgcd n d)]⟩] := HE.out.put4 2 rfl c32 k32; have HB' := below_put4 (u := u32) (v := y32) (u' := p32) (v' := q32) HB.out (show w.heap.size ≤ w.heap.size + 1 + 1 from by omega); generalize putAt (putAt X8 (w.heap.size + 1 + 1) 0 u32 y32) (w.heap.size + 1 + 1) 2 p32 q32 = X9 at *; replace HE := Hd.mk HE'; replace HB := Hd.mk HB'; clear HE' HB'; clear hv hal hne hb; go_wp2_with fail
 obtain ⟨u, v, x, y, k0, k1, k2, k3, h1, h2⟩ := (HE.out.get 2 rfl).cells2; refine bodyPost_ret (v := .agg #[u, v, x, y]) (by simp [results, Tryz.results25, go_sem, k0, k1, k2, k3]) rfl ?_; rw [HNN.out] at h1; rw [HDD.out] at h2; exact ⟨_, rfl, HB.out, isL_two.2 ⟨_, _, _, _, rfl, h1, h2⟩⟩
end Go.Proofs.YtdfhhceboacdcaaGreatDoor
set_option linter.unusedVariables false
set_option linter.unusedSimpArgs false
namespace Go.Proofs.YtdfhhceboacdcaaGreatDoor
open Go.RowKit
section
variable {P : Program} {Q : Exit → Act → World → Prop} {o : Oper} {a : Act} {w : World} {d : Nat} {R : Value → World → Prop} {f : Nat} {x1 x2 x3 y : Operand} {ts : Array TypeId}
theorem op_call0 (ho : o.op = .call { callee := .value (.func f), args := #[], argTypes := ts }) (hd : o.dst = some d)
  (hcf : ∀ args w, (callFunc f args).run P w = .ok (.enter f args) w) (hc : Calls P f #[] w (Got w R)) : o.wp P a w (Post a w d R) Q :=
 op_call ho hd hcf (by simp) hc
end
section
variable {Q : Exit → Act → World → Prop} {o : Oper} {a : Act} {w : World} {d : Nat} {x y : Operand} {A : Option Addr} {l c : Nat} {k m : Int}
theorem op_lenn {n : Nat} (ho : o.op = .call { callee := .builtin .len, args := #[x], argTypes := #[49] }) (hd : o.dst = some d) (hx : (isN n).p (a.eval x) w) : o.wp Tryz.prog a w (Post a w d (isV (.int .i64 ((ln n : Nat) : Int))).p) Q := by
 obtain ⟨A, c, e, _⟩ := hx; refine op_run (v := .int .i64 ((ln n : Nat) : Int)) hd ?_ rfl; generalize a.eval = ev at e ⊢; unfold execOp; simp only [ho]; simp [go_sem, e]
theorem op_lenw {n : Nat} (ho : o.op = .call { callee := .builtin .len, args := #[x], argTypes := #[22] }) (hd : o.dst = some d) (hx : (isN n).p (a.eval x) w) : o.wp Tryz.prog a w (Post a w d (isV (.int .i64 ((ln n : Nat) : Int))).p) Q := by
 obtain ⟨A, c, e, _⟩ := hx; refine op_run (v := .int .i64 ((ln n : Nat) : Int)) hd ?_ rfl; generalize a.eval = ev at e ⊢; unfold execOp; simp only [ho]; simp [go_sem, e]
end
attribute [local go_sem] run_max2_int run_max_two
section
variable {Q : Exit → Act → World → Prop} {o : Oper} {a : Act} {w : World} {d : Nat} {x y : Operand} {ty : TypeId} {k m : Int} {c c' : CP} {u v u' v' x0 x1 x2 x3 : Value}
theorem op_max (ho : o.op = .call { callee := .builtin .max, args := #[x, y], argTypes := #[3, 3] }) (hd : o.dst = some d) (hx : a.eval x = .int .i64 k) (hy : a.eval y = .int .i64 m) : o.wp Tryz.prog a w (Post a w d (isV (.int .i64 (if k < m then m else k))).p) Q := by
 refine op_run (v := .int .i64 (if k < m then m else k)) hd ?_ rfl; generalize a.eval = ev at hx hy ⊢; unfold execOp; simp only [ho]; simp [go_sem, hx, hy]
theorem op_gtrc {n : Int} (ho : o.op = .binOp .gtr 3 x (.const (.int .i64 n)) ty) (hx : a.eval x = .int .i64 k) (w : World) : (execOp a.eval o).run Tryz.prog w = .ok (.value (.bool (decide (n < k)))) w := by
 have hc : a.eval (.const (.int .i64 n)) = .int .i64 n := rfl; generalize a.eval = ev at hx hc ⊢; unfold execOp; simp only [ho, hx, hc]; simp [go_sem]
theorem op_eql0 (ho : o.op = .binOp .eql 3 x (.const (.int .i64 0)) ty) (hx : a.eval x = .int .i64 k) (w : World) : (execOp a.eval o).run Tryz.prog w = .ok (.value (.bool (decide (k = 0)))) w := by
 have hc : a.eval (.const (.int .i64 0)) = .int .i64 0 := rfl; generalize a.eval = ev at hx hc ⊢; unfold execOp; simp only [ho, hx, hc]; simp [go_sem]; rfl
theorem op_magV {z : Int} (ho : o.op = .field 51 x 1) (hx : (isZ z).p (a.eval x) w) : ∃ v, (∀ w, (execOp a.eval o).run Tryz.prog w = .ok (.value v) w) ∧ (isN z.natAbs).p v w := by
 obtain ⟨A, c, e, hn⟩ := hx; refine ⟨.slice A (ln z.natAbs) c, fun w => ?_, A, c, rfl, hn⟩; generalize a.eval = ev at e ⊢; unfold execOp; simp only [ho, e, Sem.run_bind, run_fld_whole, Result.andThen_ok, Sem.run_pure]
theorem op_b0R (ho : o.op = .build 26 #[]) : ∃ v, (∀ w, (execOp a.eval o).run Tryz.prog w = .ok (.value v) w) ∧ (isL [zC 0, zC 0]).p v w := by
 refine ⟨.agg #[.bool false, .slice none 0 0, .bool false, .slice none 0 0], fun w => ?_, isL_two.2 ⟨_, _, _, _, rfl, cp0 w, cp0 w⟩⟩; unfold execOp; simp only [ho]; simp [go_sem]
theorem op_b0I (ho : o.op = .build 24 #[]) : ∃ v, (∀ w, (execOp a.eval o).run Tryz.prog w = .ok (.value v) w) ∧ (isZ 0).p v w := by
 refine ⟨.agg #[.bool false, .slice none 0 0], fun w => ?_, none, 0, by rw [show ln (Int.natAbs 0) = 0 from ln_zero]; rfl, NN.nil _ _ _ (by omega)⟩; unfold execOp; simp only [ho]; simp [go_sem]
theorem bs_I2 (w : World) : (Instr.buildSlice 95 2 #[(0, .agg #[u, v]), (1, .agg #[u', v'])]).run Tryz.prog w = .ok (.slice (some ⟨w.heap.size, 0, none⟩) 2 2) (w.alloc (.cells #[u, v, u', v'] 24)) := by
 simp [go_sem]
theorem bs_R1 (w : World) : (Instr.buildSlice 35 1 #[(0, .agg #[u, v, u', v'])]).run Tryz.prog w = .ok (.slice (some ⟨w.heap.size, 0, none⟩) 1 1) (w.alloc (.cells #[u, v, u', v'] 26)) := by
 simp [go_sem]
theorem bs_R2 (w : World) : (Instr.buildSlice 35 2 #[(0, .agg #[u, v, u', v']), (1, .agg #[x0, x1, x2, x3])]).run Tryz.prog w = .ok (.slice (some ⟨w.heap.size, 0, none⟩) 2 2) (w.alloc (.cells #[u, v, u', v', x0, x1, x2, x3] 26)) := by
 simp [go_sem]
end
end Go.Proofs.YtdfhhceboacdcaaGreatDoor
