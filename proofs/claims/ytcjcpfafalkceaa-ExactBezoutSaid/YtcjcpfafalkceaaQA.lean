/- Bezout's coefficients: plain facts. -/
import Derived.Test.YtcjcpfafalkceaaGC
set_option linter.unusedVariables false
namespace Go.Proofs.Ytcjcpfafalkceaa
theorem zgcd_eq (p q : Int) : zgcd p q = ((Int.gcd p q : Nat) : Int) := by unfold zgcd; rw [Int.gcd_eq_natAbs_gcd_natAbs]
theorem zgcd_pos {p q : Int} (hq : q ≠ 0) : 0 < zgcd p q := by
  unfold zgcd
  have : 0 < Nat.gcd p.natAbs q.natAbs := Nat.gcd_pos_of_pos_right _ (by omega)
  omega
theorem zgcd_left (p q : Int) : zgcd p q ∣ p := by rw [zgcd_eq]; exact Int.gcd_dvd_left _ _
theorem zgcd_right (p q : Int) : zgcd p q ∣ q := by rw [zgcd_eq]; exact Int.gcd_dvd_right _ _
theorem zgcd_step (a b : Int) : zgcd b (a % b) = zgcd a b := by
  rw [zgcd_eq, zgcd_eq]
  congr 1
  have h : a % b = a - (a / b) * b := by have := Int.mul_ediv_add_emod a b; rw [Int.mul_comm] at this; omega
  rw [h, Int.gcd_sub_mul_right_right, Int.gcd_comm]
theorem coprime_dvd {a b c : Int} (h : Int.gcd b a = 1) (hd : a ∣ b * c) : a ∣ c := by
  rw [← Int.natAbs_dvd_natAbs] at hd ⊢
  rw [Int.natAbs_mul] at hd
  rw [Int.gcd_eq_natAbs_gcd_natAbs, Nat.gcd_comm] at h
  exact Nat.Coprime.dvd_of_dvd_mul_left h hd
/-- The modulus of the first coefficient. -/
def exm (p q : Int) : Int := (q.natAbs : Int) / zgcd p q
theorem exm_pos {p q : Int} (hq : q ≠ 0) : 0 < exm p q := by
  have h1 := zgcd_pos (p := p) hq
  have h2 := zgcd_right p q
  have h3 : zgcd p q ∣ (q.natAbs : Int) := by rw [Int.dvd_natAbs]; exact h2
  obtain ⟨k, hk⟩ := h3
  unfold exm
  rw [hk, Int.mul_ediv_cancel_left _ (by omega)]
  have h4 : (0 : Int) < (q.natAbs : Int) := by omega
  rw [hk] at h4
  rcases Int.lt_or_le 0 k with h | h
  · exact h
  · have := Int.mul_nonpos_of_nonneg_of_nonpos (show 0 ≤ zgcd p q by omega) h
    omega
theorem exm_mul (p q : Int) : zgcd p q * exm p q = (q.natAbs : Int) := by
  unfold exm
  exact Int.mul_ediv_cancel' (by rw [Int.dvd_natAbs]; exact zgcd_right p q)
/-- What the first coefficient is. -/
def ExtP (p q x : Int) : Prop := 0 ≤ x ∧ x < exm p q ∧ q ∣ p * x - zgcd p q
theorem extp_uniq {p q x y : Int} (hq : q ≠ 0) (hx : ExtP p q x) (hy : ExtP p q y) : x = y := by
  have hg := zgcd_pos (p := p) hq
  obtain ⟨p', hp⟩ := zgcd_left p q
  obtain ⟨q', hq'⟩ := zgcd_right p q
  have hc : Int.gcd p' q' = 1 := by
    have h := Int.gcd_ediv_gcd_ediv_gcd (i := p) (j := q) (by rw [zgcd_eq] at hg; omega)
    rw [← zgcd_eq] at h
    have e1 : p / zgcd p q = p' := by conv => lhs; lhs; rw [hp]
                                      exact Int.mul_ediv_cancel_left _ (by omega)
    have e2 : q / zgcd p q = q' := by conv => lhs; lhs; rw [hq']
                                      exact Int.mul_ediv_cancel_left _ (by omega)
    rwa [e1, e2] at h
  have hd : q ∣ p * (x - y) := by
    have := Int.dvd_sub hx.2.2 hy.2.2
    have e : p * x - zgcd p q - (p * y - zgcd p q) = p * (x - y) := by rw [Int.mul_sub]; omega
    rwa [e] at this
  have hd2 : q' ∣ p' * (x - y) := by
    obtain ⟨k, hk⟩ := hd
    refine ⟨k, ?_⟩
    have h1 : zgcd p q * (p' * (x - y)) = zgcd p q * (q' * k) := by
      rw [← Int.mul_assoc, ← Int.mul_assoc, ← hp, ← hq', hk]
    exact Int.eq_of_mul_eq_mul_left (by omega) h1
  have hd3 := coprime_dvd hc hd2
  have hm : exm p q = (q'.natAbs : Int) := by
    have h1 := exm_mul p q
    have h2 : (q.natAbs : Int) = zgcd p q * (q'.natAbs : Int) := by
      conv => lhs; rw [hq', Int.natAbs_mul]
      rw [Int.natCast_mul, Int.natAbs_of_nonneg (by omega)]
    rw [h2] at h1
    exact Int.eq_of_mul_eq_mul_left (by omega) h1
  have := Int.eq_zero_of_dvd_of_natAbs_lt_natAbs hd3 (by
    have h1 := hx.1; have h2 := hx.2.1; have h3 := hy.1; have h4 := hy.2.1
    rw [hm] at h2 h4
    omega)
  omega
open Classical in
/-- The coefficients. -/
noncomputable def exx (p q : Int) : Int := if q = 0 then sgnv p else if h : ∃ x, ExtP p q x then Classical.choose h else 0
theorem exx_is {p q x : Int} (hq : q ≠ 0) (h : ExtP p q x) : exx p q = x := by
  unfold exx
  rw [if_neg hq, dif_pos ⟨x, h⟩]
  exact extp_uniq hq (Classical.choose_spec (⟨x, h⟩ : ∃ x, ExtP p q x)) h
noncomputable def exy (p q : Int) : Int := if q = 0 then 0 else (zgcd p q - p * exx p q) / q
/-- From any coefficient to the least one. -/
theorem extp_mod {p q s : Int} (hq : q ≠ 0) (h : q ∣ p * s - zgcd p q) : ExtP p q (s % exm p q) := by
  have hm := exm_pos (p := p) hq
  refine ⟨Int.emod_nonneg _ (by omega), Int.emod_lt_of_pos _ hm, ?_⟩
  obtain ⟨p', hp⟩ := zgcd_left p q
  have e : p * (s % exm p q) - zgcd p q = (p * s - zgcd p q) - (q.natAbs : Int) * (p' * (s / exm p q)) := by
    have h1 := Int.mul_ediv_add_emod s (exm p q)
    have h2 : s % exm p q = s - exm p q * (s / exm p q) := by omega
    rw [h2, Int.mul_sub, ← exm_mul p q]
    have h3 : p * (exm p q * (s / exm p q)) = zgcd p q * exm p q * (p' * (s / exm p q)) := by
      conv => lhs; lhs; rw [hp]
      simp only [Int.mul_assoc, Int.mul_left_comm]
    rw [h3]
    omega
  rw [e]
  refine Int.dvd_sub h (Int.dvd_mul_of_dvd_left ?_)
  rw [Int.dvd_natAbs]
  exact Int.dvd_refl q
/-- A state of the program's Euclid. -/
structure EU (p q r0 r1 s0 s1 : Int) : Prop where
  d0 : q ∣ s0 * p - r0
  d1 : q ∣ s1 * p - r1
  g : zgcd r0 r1 = zgcd p q
  b0 : s0.natAbs ≤ 3 * q.natAbs
  b1 : s1.natAbs ≤ 3 * q.natAbs
  a0 : r0.natAbs ≤ p.natAbs + q.natAbs
  a1 : r1.natAbs ≤ q.natAbs
  ph : (r0 = p ∧ r1 = q ∧ s0 = 1 ∧ s1 = 0) ∨ (r0 = q ∧ 0 ≤ r1 ∧ s0 = 0 ∧ s1 = 1) ∨ (0 ≤ r0 ∧ 0 ≤ r1 ∧ s1.natAbs * r0.natAbs + s0.natAbs * r1.natAbs ≤ 3 * q.natAbs)
theorem EU.start {p q : Int} (hq : q ≠ 0) : EU p q p q 1 0 := by
  refine ⟨by rw [Int.one_mul, Int.sub_self]; exact Int.dvd_zero q, by rw [Int.zero_mul, Int.zero_sub]; exact Int.dvd_neg.2 (Int.dvd_refl q), rfl, ?_, by simp, by omega, Nat.le_refl _, .inl ⟨rfl, rfl, rfl, rfl⟩⟩
  show (1 : Nat) ≤ _
  omega
theorem phi_step {K R0 R1 R2 S0 S1 S2 B : Nat} (hr : R0 = K * R1 + R2) (hs : S2 ≤ S0 + K * S1) (h : S1 * R0 + S0 * R1 ≤ B) : S2 * R1 + S1 * R2 ≤ B := by
  refine Nat.le_trans ?_ h
  have h1 := Nat.mul_le_mul_right R1 hs
  rw [Nat.add_mul] at h1
  rw [hr, Nat.mul_add]
  have h2 : K * S1 * R1 = S1 * (K * R1) := by rw [Nat.mul_comm K S1, Nat.mul_assoc]
  omega
theorem abs_step {r0 r1 : Int} (h0 : 0 ≤ r0) (h1 : 0 < r1) : r0.natAbs = (r0 / r1).natAbs * r1.natAbs + (r0 % r1).natAbs := by
  have h2 := Int.mul_ediv_add_emod r0 r1
  have h3 : 0 ≤ r0 / r1 := Int.ediv_nonneg h0 (by omega)
  have h4 := Int.emod_nonneg r0 (show r1 ≠ 0 by omega)
  have h5 : (((r0 / r1).natAbs * r1.natAbs : Nat) : Int) = r1 * (r0 / r1) := by
    rw [Int.natCast_mul, Int.natAbs_of_nonneg h3, Int.natAbs_of_nonneg (by omega), Int.mul_comm]
  omega
theorem EU.step {p q r0 r1 s0 s1 : Int} (h : EU p q r0 r1 s0 s1) (h1 : r1 ≠ 0) : EU p q r1 (r0 % r1) s1 (s0 - r0 / r1 * s1) := by
  have hm0 := Int.emod_nonneg r0 h1
  have hml : (r0 % r1).natAbs < r1.natAbs := by have := Int.emod_lt r0 h1; omega
  have hd : q ∣ (s0 - r0 / r1 * s1) * p - r0 % r1 := by
    have e : (s0 - r0 / r1 * s1) * p - r0 % r1 = (s0 * p - r0) - r0 / r1 * (s1 * p - r1) := by
      have := Int.mul_ediv_add_emod r0 r1
      rw [Int.sub_mul, Int.mul_sub, Int.mul_assoc, Int.mul_comm (r0 / r1) r1]
      omega
    rw [e]
    exact Int.dvd_sub h.d0 (Int.dvd_mul_of_dvd_right h.d1)
  have hg : zgcd r1 (r0 % r1) = zgcd p q := by rw [zgcd_step, h.g]
  have key : (0 ≤ r1 ∧ (s0 - r0 / r1 * s1).natAbs * r1.natAbs + s1.natAbs * (r0 % r1).natAbs ≤ 3 * q.natAbs) → EU p q r1 (r0 % r1) s1 (s0 - r0 / r1 * s1) := by
    rintro ⟨hp, hb⟩
    refine ⟨h.d1, hd, hg, h.b1, ?_, by have := h.a1; omega, by have := h.a1; omega, .inr (.inr ⟨hp, hm0, hb⟩)⟩
    have : 1 ≤ r1.natAbs := by omega
    have h2 := Nat.mul_le_mul_left (s0 - r0 / r1 * s1).natAbs this
    omega
  rcases h.ph with ⟨e0, e1, e2, e3⟩ | ⟨e0, e1, e2, e3⟩ | ⟨e0, e1, e2⟩
  · subst e2 e3 e1
    rw [Int.mul_zero, Int.sub_zero] at hd ⊢
    exact ⟨h.d1, hd, hg, h.b1, h.b0, by omega, by omega, .inr (.inl ⟨rfl, hm0, rfl, rfl⟩)⟩
  · apply key
    subst e2 e3 e0
    refine ⟨e1, ?_⟩
    rw [Int.mul_one, Int.zero_sub, Int.natAbs_neg]
    have h2 := Int.mul_ediv_add_emod r0 r1
    have h3 : (((r0 / r1).natAbs * r1.natAbs : Nat) : Int) = ((r1 * (r0 / r1)).natAbs : Int) := by
      rw [Int.natAbs_mul, Nat.mul_comm]
    have h4 : (r1 * (r0 / r1)).natAbs ≤ r0.natAbs + (r0 % r1).natAbs := by omega
    have h5 : (r0 / r1).natAbs * r1.natAbs ≤ r0.natAbs + (r0 % r1).natAbs := by omega
    have h6 := h.a1
    show (r0 / r1).natAbs * r1.natAbs + 1 * (r0 % r1).natAbs ≤ 3 * r0.natAbs
    omega
  · apply key
    refine ⟨e1, phi_step (K := (r0 / r1).natAbs) (abs_step e0 (by omega)) ?_ e2⟩
    refine Nat.le_trans (Int.natAbs_sub_le _ _) ?_
    rw [Int.natAbs_mul]
    exact Nat.le_refl _
theorem EU.end_ {p q r0 s0 s1 : Int} (h : EU p q r0 0 s0 s1) : (r0.natAbs : Int) = zgcd p q ∧ q ∣ p * (if r0 < 0 then -s0 else s0) - zgcd p q := by
  have hg : (r0.natAbs : Int) = zgcd p q := by
    rw [← h.g]
    unfold zgcd
    simp
  refine ⟨hg, ?_⟩
  rw [← hg]
  by_cases hn : r0 < 0
  · rw [if_pos hn]
    have e : p * -s0 - (r0.natAbs : Int) = -(s0 * p - r0) := by rw [Int.mul_neg, Int.mul_comm]; omega
    rw [e]
    exact Int.dvd_neg.2 h.d0
  · rw [if_neg hn]
    have e : p * s0 - (r0.natAbs : Int) = s0 * p - r0 := by rw [Int.mul_comm]; omega
    rw [e]
    exact h.d0
/-- A state of the reference's Euclid. -/
structure EV (a0 m a b x y : Int) : Prop where
  d0 : m ∣ x * a0 - a
  d1 : m ∣ y * a0 - b
  g : zgcd a b = zgcd a0 m
  na : 0 ≤ a
  nb : 0 ≤ b
  la : a ≤ m
  lb : b ≤ m
  bx : x.natAbs ≤ m.natAbs
  by_ : y.natAbs ≤ m.natAbs
  ph : y.natAbs * a.natAbs + x.natAbs * b.natAbs ≤ m.natAbs
theorem EV.start {a0 m : Int} (hm : 0 < m) (h0 : 0 ≤ a0) (h1 : a0 < m) : EV a0 m a0 m 1 0 := by
  refine ⟨by rw [Int.one_mul, Int.sub_self]; exact Int.dvd_zero m, by rw [Int.zero_mul, Int.zero_sub]; exact Int.dvd_neg.2 (Int.dvd_refl m), rfl, h0, by omega, by omega, Int.le_refl m, ?_, by simp, ?_⟩
  · show (1 : Nat) ≤ _
    omega
  · show 0 * _ + 1 * _ ≤ _
    omega
theorem EV.step {a0 m a b x y : Int} (h : EV a0 m a b x y) (h1 : b ≠ 0) : EV a0 m b (a % b) y (x - a / b * y) := by
  have hm0 := Int.emod_nonneg a h1
  have hml : (a % b).natAbs < b.natAbs := by have := Int.emod_lt a h1; omega
  have hb0 := h.nb
  have hd : m ∣ (x - a / b * y) * a0 - a % b := by
    have e : (x - a / b * y) * a0 - a % b = (x * a0 - a) - a / b * (y * a0 - b) := by
      have := Int.mul_ediv_add_emod a b
      rw [Int.sub_mul, Int.mul_sub, Int.mul_assoc, Int.mul_comm (a / b) b]
      omega
    rw [e]
    exact Int.dvd_sub h.d0 (Int.dvd_mul_of_dvd_right h.d1)
  have hph : (x - a / b * y).natAbs * b.natAbs + y.natAbs * (a % b).natAbs ≤ m.natAbs := by
    refine phi_step (K := (a / b).natAbs) (abs_step h.na (by omega)) ?_ h.ph
    refine Nat.le_trans (Int.natAbs_sub_le _ _) ?_
    rw [Int.natAbs_mul]
    exact Nat.le_refl _
  refine ⟨h.d1, hd, by rw [zgcd_step, h.g], hb0, hm0, h.lb, by have := h.lb; omega, h.by_, ?_, hph⟩
  have : 1 ≤ b.natAbs := by omega
  have h2 := Nat.mul_le_mul_left (x - a / b * y).natAbs this
  omega
/-- The reference's inverse gives the first coefficient. -/
theorem EV.end_ {p q a x y : Int} (hq : q ≠ 0) (h : EV ((p / zgcd p q) % exm p q) (exm p q) a 0 x y) : ExtP p q (x % exm p q) := by
  have hg := zgcd_pos (p := p) hq
  have hm := exm_pos (p := p) hq
  obtain ⟨p', hp⟩ := zgcd_left p q
  have e1 : p / zgcd p q = p' := by conv => lhs; lhs; rw [hp]
                                    exact Int.mul_ediv_cancel_left _ (by omega)
  rw [e1] at h
  have hc : Int.gcd p' (exm p q) = 1 := by
    obtain ⟨q', hq'⟩ := zgcd_right p q
    have h2 := Int.gcd_ediv_gcd_ediv_gcd (i := p) (j := q) (by rw [zgcd_eq] at hg; omega)
    rw [← zgcd_eq] at h2
    have e2 : q / zgcd p q = q' := by conv => lhs; lhs; rw [hq']
                                      exact Int.mul_ediv_cancel_left _ (by omega)
    rw [e1, e2] at h2
    have hmq : exm p q = (q'.natAbs : Int) := by
      have h1 := exm_mul p q
      have h3 : (q.natAbs : Int) = zgcd p q * (q'.natAbs : Int) := by
        conv => lhs; rw [hq', Int.natAbs_mul]
        rw [Int.natCast_mul, Int.natAbs_of_nonneg (by omega)]
      rw [h3] at h1
      exact Int.eq_of_mul_eq_mul_left (by omega) h1
    rw [hmq, Int.gcd_eq_natAbs_gcd_natAbs, Int.natAbs_natCast, ← Int.gcd_eq_natAbs_gcd_natAbs]
    exact h2
  have ha : a = 1 := by
    have h2 := h.g
    have h3 : zgcd (p' % exm p q) (exm p q) = 1 := by
      have h4 := zgcd_step p' (exm p q)
      have h5 : zgcd (p' % exm p q) (exm p q) = zgcd (exm p q) (p' % exm p q) := by unfold zgcd; rw [Nat.gcd_comm]
      rw [h5, h4, zgcd_eq, hc]
      rfl
    rw [h3] at h2
    unfold zgcd at h2
    simp at h2
    have := h.na
    omega
  subst ha
  apply extp_mod hq
  have h2 : exm p q ∣ x * p' - 1 := by
    have h3 := h.d0
    have h4 := Int.mul_ediv_add_emod p' (exm p q)
    have e : x * p' - 1 = (x * (p' % exm p q) - 1) + exm p q * (x * (p' / exm p q)) := by
      have h5 : x * p' = x * (exm p q * (p' / exm p q)) + x * (p' % exm p q) := by rw [← Int.mul_add, h4]
      have h6 : x * (exm p q * (p' / exm p q)) = exm p q * (x * (p' / exm p q)) := Int.mul_left_comm _ _ _
      omega
    rw [e]
    exact Int.dvd_add h3 (Int.dvd_mul_right _ _)
  obtain ⟨k, hk⟩ := h2
  have e : p * x - zgcd p q = (q.natAbs : Int) * k := by
    rw [← exm_mul p q, Int.mul_assoc, ← hk, Int.mul_sub, Int.mul_one]
    conv => lhs; lhs; lhs; rw [hp]
    rw [Int.mul_assoc, Int.mul_comm p' x]
  rw [e]
  refine Int.dvd_mul_of_dvd_left ?_
  rw [Int.dvd_natAbs]
  exact Int.dvd_refl q
theorem eu_run {p q : Int} (hq : q ≠ 0) : ∀ (n : Nat) (r0 r1 s0 s1 : Int), r1.natAbs ≤ n → EU p q r0 r1 s0 s1 → ∃ s, q ∣ p * s - zgcd p q
  | 0, r0, r1, s0, s1, h, he => by
    have h1 : r1 = 0 := by omega
    subst h1
    exact ⟨_, he.end_.2⟩
  | n + 1, r0, r1, s0, s1, h, he => by
    by_cases h1 : r1 = 0
    · subst h1
      exact ⟨_, he.end_.2⟩
    · refine eu_run hq n _ _ _ _ ?_ (he.step h1)
      have h2 := Int.emod_nonneg r0 h1
      have h3 := Int.emod_lt r0 h1
      omega
/-- There is such a coefficient. -/
theorem ext_ex {p q : Int} (hq : q ≠ 0) : ∃ x, ExtP p q x := by
  obtain ⟨s, hs⟩ := eu_run hq q.natAbs p q 1 0 (Nat.le_refl _) (EU.start hq)
  exact ⟨_, extp_mod hq hs⟩
end Go.Proofs.Ytcjcpfafalkceaa
