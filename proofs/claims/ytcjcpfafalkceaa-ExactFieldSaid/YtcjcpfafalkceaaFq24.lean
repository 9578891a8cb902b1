/- Part 24 of the texts behind this claim. -/
import Derived.Test.YtcjcpfafalkceaaFq11
import Derived.Test.YtcjcpfafalkceaaFq12
import Derived.Test.YtcjcpfafalkceaaFq13
import Derived.Test.YtcjcpfafalkceaaFq14
import Derived.Test.YtcjcpfafalkceaaFq17
import Derived.Test.YtcjcpfafalkceaaFq20
import Derived.Test.YtcjcpfafalkceaaFq21
import Derived.Test.YtcjcpfafalkceaaFq23
set_option linter.unusedVariables false
set_option linter.unusedSimpArgs false
namespace Go.Proofs.Ytcjcpfafalkceaa
open Go.RowKit
set_option maxHeartbeats 1000000 in
set_option maxRecDepth 100000 in
theorem gcd_calls (A1 : Option Addr) (c1 n : Nat) (A2 : Option Addr) (c2 m : Nat) (w : World) (h1 : NN w A1 c1 n) (h2 : NN w A2 c2 m) (l1 : ln n ≤ 268435456) (l2 : ln m ≤ 268435456) :
    Calls Try.prog 91 #[.slice A1 (ln n) c1, .slice A2 (ln m) c2] w (RetN (Nat.gcd n m) w) := by
  have HX := Hd.mk h1
  have HY := Hd.mk h2
  clear h1 h2
  go_enter Try.func91, Try.ntmps91
  go_wp2_with fail
  go_loopg [0, 1] m (fun g s0 s1 wr => ∃ (a b : Nat) (A : Option Addr) (c : Nat) (A' : Option Addr) (c' : Nat), s0 = .slice A (ln a) c ∧ s1 = .slice A' (ln b) c' ∧ NN wr A c a ∧ NN wr A' c' b ∧ Nat.gcd a b = Nat.gcd n m ∧ ln a ≤ 268435456 ∧ ln b ≤ 268435456 ∧ b ≤ g ∧ Below w.heap.size w wr)
  case atStart => exact ⟨n, m, A1, c1, A2, c2, rfl, rfl, HX.out, HY.out, rfl, l1, l2, Nat.le_refl _, Below.refl _ _⟩
  case round =>
    obtain ⟨a, b, A, c, A', c', rfl, rfl, hna, hnb, hg, hla, hlb, hbg, hbel⟩ := hrel
    have HA := Hd.mk hna
    have HBb := Hd.mk hnb
    have HG := Hd.mk hg
    have HBG := Hd.mk hbg
    have HB := Hd.mk hbel
    clear hna hnb hg hbg hbel
    go_wp2_with fail
    refine (zero_calls _ _ _ _ (by omega)).mono ?_
    rintro e w1 ⟨rfl, rfl⟩
    by_cases hb0 : b = 0
    · have hd : decide (ln b = 0) = true := decide_eq_true (by rw [hb0, ln_zero])
      rw [hd]
      have he : Nat.gcd n m = a := by rw [← HG.out, hb0, Nat.gcd_zero_right]
      have HE := Hd.mk he
      clear hd hb0 he
      go_wp2_with fail
      go_ret
      exact ⟨A, c, by rw [HE.out]; rfl, by rw [HE.out]; exact HA.out, HB.out⟩
    · have hd : decide (ln b = 0) = false := decide_eq_false (fun h => hb0 (ln_eq_zero.1 h))
      rw [hd]
      have HD := Hd.mk (div_calls A c a A' c' b wr HA.out HBb.out hb0 hla)
      have HLT : Hd (a % b < b) := ⟨Nat.mod_lt _ (by omega)⟩
      have HGG : Hd (Nat.gcd b (a % b) = Nat.gcd n m) := ⟨by rw [← HG.out, Nat.gcd_comm a b, Nat.gcd_rec b a, Nat.gcd_comm]⟩
      have hlr : ln (a % b) ≤ 268435456 := Nat.le_trans (ln_mono (Nat.le_of_lt HLT.out)) hlb
      clear hb0 hd
      go_wp2_with fail
      refine HD.out.mono ?_
      rintro e w1 ⟨A3, c3, A4, c4, rfl, hn3, hn4, hb1⟩
      have HN4 := Hd.mk hn4
      clear hn3 hn4
      go_wp2_with fail
      go_roundg (a % b)
      case measure => have := HLT.out; have := HBG.out; omega
      case rel => exact ⟨b, a % b, A', c', A4, c4, rfl, rfl, HBb.out.to hb1, HN4.out, HGG.out, hlb, hlr, Nat.le_refl _, bel_then HB.out hb1⟩
def zgcd (x y : Int) : Int := (Nat.gcd x.natAbs y.natAbs : Nat)
theorem zgcd_abs (x y : Int) : (zgcd x y).natAbs = Nat.gcd x.natAbs y.natAbs := by unfold zgcd; omega
theorem zgcd_sign (x y : Int) : decide (zgcd x y < 0) = false := decide_eq_false (by unfold zgcd; omega)
theorem zgcd_ln (x y : Int) : ln (zgcd x y).natAbs ≤ max (ln x.natAbs) (ln y.natAbs) := by
  rw [zgcd_abs]
  by_cases h : x.natAbs = 0
  · rw [h, Nat.gcd_zero_left]; omega
  · exact Nat.le_trans (ln_mono (Nat.gcd_le_left _ (by omega))) (by omega)
set_option maxRecDepth 100000 in
theorem rCommon_calls (x y : Int) (A1 : Option Addr) (c1 : Nat) (A2 : Option Addr) (c2 : Nat) (w : World) (h1 : NN w A1 c1 x.natAbs) (h2 : NN w A2 c2 y.natAbs) (l1 : ln x.natAbs ≤ 268435456) (l2 : ln y.natAbs ≤ 268435456) :
    Calls Try.prog 96 #[.agg #[.bool (decide (x < 0)), .slice A1 (ln x.natAbs) c1], .agg #[.bool (decide (y < 0)), .slice A2 (ln y.natAbs) c2]] w (RetZ (zgcd x y) w) := by
  have HT := Hd.mk (fun W (hW : Below w.heap.size w W) => divisor_calls A1 c1 x.natAbs A2 c2 y.natAbs W (h1.to hW) (h2.to hW) l1 l2)
  have hgl := zgcd_ln x y
  unfold RetZ
  rw [zgcd_abs] at hgl
  rw [zgcd_sign, zgcd_abs]
  clear h1 h2
  obtain ⟨b1, hb1⟩ : ∃ b, b = decide (x < 0) := ⟨_, rfl⟩
  obtain ⟨b2, hb2⟩ : ∃ b, b = decide (y < 0) := ⟨_, rfl⟩
  rw [← hb1, ← hb2]
  clear hb1 hb2
  obtain ⟨g, hg⟩ : ∃ g, g = Nat.gcd x.natAbs y.natAbs := ⟨_, rfl⟩
  rw [← hg] at HT hgl ⊢
  obtain ⟨n1, hn1⟩ : ∃ n, n = ln x.natAbs := ⟨_, rfl⟩
  obtain ⟨n2, hn2⟩ : ∃ n, n = ln y.natAbs := ⟨_, rfl⟩
  rw [← hn1, ← hn2] at HT hgl ⊢
  rw [← hn1] at l1
  rw [← hn2] at l2
  have hgl2 : ln g ≤ 9223372036854775807 := by omega
  clear hg hn1 hn2 hgl
  go_enter Try.func96, Try.ntmps96
  go_wp2_with fail
  obtain ⟨W0, hW0⟩ : ∃ W : World, W = ((w.alloc (.cells #[.bool b1, .slice A1 n1 c1] 38)).alloc (.cells #[.bool b2, .slice A2 n2 c2] 38)).alloc (.cells #[.bool false, .slice none 0 0] 38) := ⟨_, rfl⟩
  rw [← hW0]
  have HSZ : Hd (w.heap.size + 1 + 1 + 1 = W0.heap.size) := ⟨by rw [hW0]; simp⟩
  obtain ⟨hB0, hB1, hB2, hBW⟩ := boxes3 hW0
  have q0 := hB0.c0
  have q1 := hB0.c1
  have q2 := hB1.c0
  have q3 := hB1.c1
  have g0 := hB2.c0
  have g1 := hB2.c1
  have u0 := hB2.f0
  have u1 := hB2.f1
  have Q0 := Hd.mk hB0
  have Q1 := Hd.mk hB1
  have QR := Hd.mk hB2
  have HW := Hd.mk hBW
  have HB : Hd (Below W0.heap.size W0 W0) := ⟨Below.refl _ _⟩
  clear hB0 hB1 hB2 hBW hW0
  refine (HT.out _ (bel_then HW.out (by repeat (first | exact HB.out | exact Below.refl _ _ | refine below_alloc ?_ _ | refine below_drewN ?_ _ | refine below_drew ?_ | refine below_set ?_ (by first | exact Nat.le_refl _ | omega | (simp; done) | (simp; omega)) _)))).mono ?_
  rintro e w1 ⟨A3, c3, rfl, hn3, hb1⟩
  have HN3 := Hd.mk hn3
  clear hn3
  have HB' : Hd (Below W0.heap.size W0 _) := ⟨bel_then (by repeat (first | exact HB.out | exact Below.refl _ _ | refine below_alloc ?_ _ | refine below_drewN ?_ _ | refine below_drew ?_ | refine below_set ?_ (by first | exact Nat.le_refl _ | omega | (simp; done) | (simp; omega)) _)) hb1⟩; clear HB; have HB := HB'; clear HB' hb1; replace q0 := (Q0.out.to HB.out).c0; replace q1 := (Q0.out.to HB.out).c1; replace q2 := (Q1.out.to HB.out).c0; replace q3 := (Q1.out.to HB.out).c1; replace g0 := (QR.out.to HB.out).c0; replace g1 := (QR.out.to HB.out).c1; replace u0 := (QR.out.to HB.out).f0; replace u1 := (QR.out.to HB.out).f1
  go_wp2_with fail
  refine (signed_calls false false A3 (ln g) c3 _ hgl2 rfl).mono ?_
  rintro e w2 ⟨rfl, hb2⟩
  have HN := Hd.mk (HN3.out.to hb2)
  clear HN3
  have HB' : Hd (Below W0.heap.size W0 _) := ⟨bel_then (by repeat (first | exact HB.out | exact Below.refl _ _ | refine below_alloc ?_ _ | refine below_drewN ?_ _ | refine below_drew ?_ | refine below_set ?_ (by first | exact Nat.le_refl _ | omega | (simp; done) | (simp; omega)) _)) hb2⟩; clear HB; have HB := HB'; clear HB' hb2; replace q0 := (Q0.out.to HB.out).c0; replace q1 := (Q0.out.to HB.out).c1; replace q2 := (Q1.out.to HB.out).c0; replace q3 := (Q1.out.to HB.out).c1; replace g0 := (QR.out.to HB.out).c0; replace g1 := (QR.out.to HB.out).c1; replace u0 := (QR.out.to HB.out).f0; replace u1 := (QR.out.to HB.out).f1
  go_wp2_with fail
  obtain ⟨k0, k1, k2⟩ := two_set g0 g1 (.bool false) (.slice A3 (ln g) c3)
  refine bodyPost_ret (v := .agg #[.bool false, .slice A3 (ln g) c3]) (by simp [results, Try.results96, go_sem, k0, k1]) rfl ?_
  exact ⟨A3, c3, rfl, (HN.out.set_ g0 (by intro t; simp) _).set_ k2 (by intro t; simp) _, (by repeat (first | exact bel_then HW.out HB.out | refine below_set ?_ (by first | exact Nat.le_refl _ | omega | (simp; done) | (simp; omega)) _ | refine below_alloc ?_ _ | refine below_drewN ?_ _ | refine below_drew ?_))⟩
end Go.Proofs.Ytcjcpfafalkceaa
set_option linter.unusedVariables false
namespace Go.Proofs.Ytcjcpfafalkceaa
theorem zgcd_eq (p q : Int) : zgcd p q = ((Int.gcd p q : Nat) : Int) := by unfold zgcd; rw [Int.gcd_eq_natAbs_gcd_natAbs]
theorem zgcd_pos {p q : Int} (hq : q ≠ 0) : 0 < zgcd p q := by
  unfold zgcd
  have : 0 < Nat.gcd p.natAbs q.natAbs := Nat.gcd_pos_of_pos_right _ (by omega)
  omega
theorem zgcd_left (p q : Int) : zgcd p q ∣ p := by rw [zgcd_eq]; exact Int.gcd_dvd_left _ _
theorem zgcd_right (p q : Int) : zgcd p q ∣ q := by rw [zgcd_eq]; exact Int.gcd_dvd_right _ _
theorem zgcd_step (a b : Int) : zgcd b (a % b) = zgcd a b := by
  rw [zgcd_eq, zgcd_eq]
  congr 1
  have h : a % b = a - (a / b) * b := by have := Int.mul_ediv_add_emod a b; rw [Int.mul_comm] at this; omega
  rw [h, Int.gcd_sub_mul_right_right, Int.gcd_comm]
theorem coprime_dvd {a b c : Int} (h : Int.gcd b a = 1) (hd : a ∣ b * c) : a ∣ c := by
  rw [← Int.natAbs_dvd_natAbs] at hd ⊢
  rw [Int.natAbs_mul] at hd
  rw [Int.gcd_eq_natAbs_gcd_natAbs, Nat.gcd_comm] at h
  exact Nat.Coprime.dvd_of_dvd_mul_left h hd
def exm (p q : Int) : Int := (q.natAbs : Int) / zgcd p q
theorem exm_pos {p q : Int} (hq : q ≠ 0) : 0 < exm p q := by
  have h1 := zgcd_pos (p := p) hq
  have h2 := zgcd_right p q
  have h3 : zgcd p q ∣ (q.natAbs : Int) := by rw [Int.dvd_natAbs]; exact h2
  obtain ⟨k, hk⟩ := h3
  unfold exm
  rw [hk, Int.mul_ediv_cancel_left _ (by omega)]
  have h4 : (0 : Int) < (q.natAbs : Int) := by omega
  rw [hk] at h4
  rcases Int.lt_or_le 0 k with h | h
  · exact h
  · have := Int.mul_nonpos_of_nonneg_of_nonpos (show 0 ≤ zgcd p q by omega) h
    omega
theorem exm_mul (p q : Int) : zgcd p q * exm p q = (q.natAbs : Int) := by
  unfold exm
  exact Int.mul_ediv_cancel' (by rw [Int.dvd_natAbs]; exact zgcd_right p q)
open Classical in
structure EU (p q r0 r1 s0 s1 : Int) : Prop where
  d0 : q ∣ s0 * p - r0
  d1 : q ∣ s1 * p - r1
  g : zgcd r0 r1 = zgcd p q
  b0 : s0.natAbs ≤ 3 * q.natAbs
  b1 : s1.natAbs ≤ 3 * q.natAbs
  a0 : r0.natAbs ≤ p.natAbs + q.natAbs
  a1 : r1.natAbs ≤ q.natAbs
  ph : (r0 = p ∧ r1 = q ∧ s0 = 1 ∧ s1 = 0) ∨ (r0 = q ∧ 0 ≤ r1 ∧ s0 = 0 ∧ s1 = 1) ∨ (0 ≤ r0 ∧ 0 ≤ r1 ∧ s1.natAbs * r0.natAbs + s0.natAbs * r1.natAbs ≤ 3 * q.natAbs)
theorem phi_step {K R0 R1 R2 S0 S1 S2 B : Nat} (hr : R0 = K * R1 + R2) (hs : S2 ≤ S0 + K * S1) (h : S1 * R0 + S0 * R1 ≤ B) : S2 * R1 + S1 * R2 ≤ B := by
  refine Nat.le_trans ?_ h
  have h1 := Nat.mul_le_mul_right R1 hs
  rw [Nat.add_mul] at h1
  rw [hr, Nat.mul_add]
  have h2 : K * S1 * R1 = S1 * (K * R1) := by rw [Nat.mul_comm K S1, Nat.mul_assoc]
  omega
theorem abs_step {r0 r1 : Int} (h0 : 0 ≤ r0) (h1 : 0 < r1) : r0.natAbs = (r0 / r1).natAbs * r1.natAbs + (r0 % r1).natAbs := by
  have h2 := Int.mul_ediv_add_emod r0 r1
  have h3 : 0 ≤ r0 / r1 := Int.ediv_nonneg h0 (by omega)
  have h4 := Int.emod_nonneg r0 (show r1 ≠ 0 by omega)
  have h5 : (((r0 / r1).natAbs * r1.natAbs : Nat) : Int) = r1 * (r0 / r1) := by
    rw [Int.natCast_mul, Int.natAbs_of_nonneg h3, Int.natAbs_of_nonneg (by omega), Int.mul_comm]
  omega
theorem EU.step {p q r0 r1 s0 s1 : Int} (h : EU p q r0 r1 s0 s1) (h1 : r1 ≠ 0) : EU p q r1 (r0 % r1) s1 (s0 - r0 / r1 * s1) := by
  have hm0 := Int.emod_nonneg r0 h1
  have hml : (r0 % r1).natAbs < r1.natAbs := by have := Int.emod_lt r0 h1; omega
  have hd : q ∣ (s0 - r0 / r1 * s1) * p - r0 % r1 := by
    have e : (s0 - r0 / r1 * s1) * p - r0 % r1 = (s0 * p - r0) - r0 / r1 * (s1 * p - r1) := by
      have := Int.mul_ediv_add_emod r0 r1
      rw [Int.sub_mul, Int.mul_sub, Int.mul_assoc, Int.mul_comm (r0 / r1) r1]
      omega
    rw [e]
    exact Int.dvd_sub h.d0 (Int.dvd_mul_of_dvd_right h.d1)
  have hg : zgcd r1 (r0 % r1) = zgcd p q := by rw [zgcd_step, h.g]
  have key : (0 ≤ r1 ∧ (s0 - r0 / r1 * s1).natAbs * r1.natAbs + s1.natAbs * (r0 % r1).natAbs ≤ 3 * q.natAbs) → EU p q r1 (r0 % r1) s1 (s0 - r0 / r1 * s1) := by
    rintro ⟨hp, hb⟩
    refine ⟨h.d1, hd, hg, h.b1, ?_, by have := h.a1; omega, by have := h.a1; omega, .inr (.inr ⟨hp, hm0, hb⟩)⟩
    have : 1 ≤ r1.natAbs := by omega
    have h2 := Nat.mul_le_mul_left (s0 - r0 / r1 * s1).natAbs this
    omega
  rcases h.ph with ⟨e0, e1, e2, e3⟩ | ⟨e0, e1, e2, e3⟩ | ⟨e0, e1, e2⟩
  · subst e2 e3 e1
    rw [Int.mul_zero, Int.sub_zero] at hd ⊢
    exact ⟨h.d1, hd, hg, h.b1, h.b0, by omega, by omega, .inr (.inl ⟨rfl, hm0, rfl, rfl⟩)⟩
  · apply key
    subst e2 e3 e0
    refine ⟨e1, ?_⟩
    rw [Int.mul_one, Int.zero_sub, Int.natAbs_neg]
    have h2 := Int.mul_ediv_add_emod r0 r1
    have h3 : (((r0 / r1).natAbs * r1.natAbs : Nat) : Int) = ((r1 * (r0 / r1)).natAbs : Int) := by
      rw [Int.natAbs_mul, Nat.mul_comm]
    have h4 : (r1 * (r0 / r1)).natAbs ≤ r0.natAbs + (r0 % r1).natAbs := by omega
    have h5 : (r0 / r1).natAbs * r1.natAbs ≤ r0.natAbs + (r0 % r1).natAbs := by omega
    have h6 := h.a1
    show (r0 / r1).natAbs * r1.natAbs + 1 * (r0 % r1).natAbs ≤ 3 * r0.natAbs
    omega
  · apply key
    refine ⟨e1, phi_step (K := (r0 / r1).natAbs) (abs_step e0 (by omega)) ?_ e2⟩
    refine Nat.le_trans (Int.natAbs_sub_le _ _) ?_
    rw [Int.natAbs_mul]
    exact Nat.le_refl _
structure EV (a0 m a b x y : Int) : Prop where
  d0 : m ∣ x * a0 - a
  d1 : m ∣ y * a0 - b
  g : zgcd a b = zgcd a0 m
  na : 0 ≤ a
  nb : 0 ≤ b
  la : a ≤ m
  lb : b ≤ m
  bx : x.natAbs ≤ m.natAbs
  by_ : y.natAbs ≤ m.natAbs
  ph : y.natAbs * a.natAbs + x.natAbs * b.natAbs ≤ m.natAbs
theorem EV.step {a0 m a b x y : Int} (h : EV a0 m a b x y) (h1 : b ≠ 0) : EV a0 m b (a % b) y (x - a / b * y) := by
  have hm0 := Int.emod_nonneg a h1
  have hml : (a % b).natAbs < b.natAbs := by have := Int.emod_lt a h1; omega
  have hb0 := h.nb
  have hd : m ∣ (x - a / b * y) * a0 - a % b := by
    have e : (x - a / b * y) * a0 - a % b = (x * a0 - a) - a / b * (y * a0 - b) := by
      have := Int.mul_ediv_add_emod a b
      rw [Int.sub_mul, Int.mul_sub, Int.mul_assoc, Int.mul_comm (a / b) b]
      omega
    rw [e]
    exact Int.dvd_sub h.d0 (Int.dvd_mul_of_dvd_right h.d1)
  have hph : (x - a / b * y).natAbs * b.natAbs + y.natAbs * (a % b).natAbs ≤ m.natAbs := by
    refine phi_step (K := (a / b).natAbs) (abs_step h.na (by omega)) ?_ h.ph
    refine Nat.le_trans (Int.natAbs_sub_le _ _) ?_
    rw [Int.natAbs_mul]
    exact Nat.le_refl _
  refine ⟨h.d1, hd, by rw [zgcd_step, h.g], hb0, hm0, h.lb, by have := h.lb; omega, h.by_, ?_, hph⟩
  have : 1 ≤ b.natAbs := by omega
  have h2 := Nat.mul_le_mul_left (x - a / b * y).natAbs this
  omega
end Go.Proofs.Ytcjcpfafalkceaa
set_option linter.unusedVariables false
set_option linter.unusedSimpArgs false
namespace Go.Proofs.Ytcjcpfafalkceaa
open Go.RowKit
theorem rvalid_num (z : Int) (A : Option Addr) (c : Nat) (w : World) (h : NN w A c z.natAbs) (hl : ln z.natAbs ≤ 256) :
    Calls Try.prog 22 #[.agg #[.bool (decide (z < 0)), .slice A (ln z.natAbs) c]] w fun e w' => e = .returned (.bool true) ∧ Below w.heap.size w w' := by
  have hok : Raw.ok ⟨decide (z < 0), A, c, dig z.natAbs⟩ = true := by
    unfold Raw.ok
    simp only [Bool.and_eq_true, decide_eq_true_eq, Bool.not_eq_true', Bool.and_eq_false_iff, decide_eq_false_iff_not]
    refine ⟨⟨hl, ?_⟩, ?_⟩
    · by_cases h0 : (dig z.natAbs).length = 0
      · right
        have := ln_eq_zero.1 h0
        omega
      · exact .inl h0
    · by_cases h0 : 0 < (dig z.natAbs).length
      · right
        exact dig_last z.natAbs _ (by omega)
      · exact .inl h0
  have := rvalid_calls ⟨decide (z < 0), A, c, dig z.natAbs⟩ w ⟨h.1, dg_dig _, h.2.1, h.2.2⟩
  rw [hok] at this
  exact this
theorem whole_one (w : World) : Calls Try.prog 24 #[.int .i64 1] w (Got w (isZ 1).p) := (Whole_calls 1 w (by omega) (by omega)).mono fun e w' h => h.got
end Go.Proofs.Ytcjcpfafalkceaa
set_option linter.unusedVariables false
set_option linter.unusedSimpArgs false
namespace Go.Proofs.Ytcjcpfafalkceaa
open Go.RowKit
set_option maxHeartbeats 1000000 in
set_option maxRecDepth 100000 in
theorem rExactly_calls (x y : Int) (A1 : Option Addr) (c1 : Nat) (A2 : Option Addr) (c2 : Nat) (w : World) (h1 : NN w A1 c1 x.natAbs) (h2 : NN w A2 c2 y.natAbs) (hy : y ≠ 0) (l1 : ln x.natAbs ≤ 268435456) (l2 : ln y.natAbs ≤ 268435456) :
    Calls Try.prog 97 #[.agg #[.bool (decide (x < 0)), .slice A1 (ln x.natAbs) c1], .agg #[.bool (decide (y < 0)), .slice A2 (ln y.natAbs) c2]] w (RetZ (x / y) w) := by
  have HO := Hd.mk (fun W (hW : Below w.heap.size w W) => rOver_calls x y A1 c1 A2 c2 W (h1.to hW) (h2.to hW) hy l1 l2)
  clear h1 h2 hy
  obtain ⟨q, hq⟩ : ∃ q, q = x / y := ⟨_, rfl⟩
  obtain ⟨r, hr⟩ : ∃ r, r = x % y := ⟨_, rfl⟩
  rw [← hq, ← hr] at HO
  rw [← hq]
  obtain ⟨b1, hb1⟩ : ∃ b, b = decide (x < 0) := ⟨_, rfl⟩
  obtain ⟨b2, hb2⟩ : ∃ b, b = decide (y < 0) := ⟨_, rfl⟩
  rw [← hb1, ← hb2] at HO ⊢
  obtain ⟨n1, hn1⟩ : ∃ n, n = ln x.natAbs := ⟨_, rfl⟩
  obtain ⟨n2, hn2⟩ : ∃ n, n = ln y.natAbs := ⟨_, rfl⟩
  rw [← hn1, ← hn2] at HO ⊢
  clear hb1 hb2 hn1 hn2 hq hr
  go_enter Try.func97, Try.ntmps97
  go_wp2_with fail
  obtain ⟨W0, hW0⟩ : ∃ W : World, W = ((w.alloc (.cells #[.bool b1, .slice A1 n1 c1] 38)).alloc (.cells #[.bool b2, .slice A2 n2 c2] 38)).alloc (.cells #[.bool false, .slice none 0 0] 38) := ⟨_, rfl⟩
  rw [← hW0]
  have HSZ : Hd (w.heap.size + 1 + 1 + 1 = W0.heap.size) := ⟨by rw [hW0]; simp⟩
  obtain ⟨hB0, hB1, hB2, hBW⟩ := boxes3 hW0
  have q0 := hB0.c0
  have q1 := hB0.c1
  have q2 := hB1.c0
  have q3 := hB1.c1
  have g0 := hB2.c0
  have g1 := hB2.c1
  have u0 := hB2.f0
  have u1 := hB2.f1
  have Q0 := Hd.mk hB0
  have Q1 := Hd.mk hB1
  have QR := Hd.mk hB2
  have HW := Hd.mk hBW
  have HB : Hd (Below W0.heap.size W0 W0) := ⟨Below.refl _ _⟩
  clear hB0 hB1 hB2 hBW hW0
  refine (HO.out _ HW.out).mono ?_
  rintro e w1 ⟨A3, c3, A4, c4, rfl, hn3, hn4, hb1⟩
  have HN3 := Hd.mk hn3
  clear hn3 hn4
  have HB' : Hd (Below W0.heap.size W0 _) := ⟨bel_then (by repeat (first | exact HB.out | exact Below.refl _ _ | refine below_alloc ?_ _ | refine below_drewN ?_ _ | refine below_drew ?_ | refine below_set ?_ (by first | exact Nat.le_refl _ | omega | (simp; done) | (simp; omega)) _)) hb1⟩; clear HB; have HB := HB'; clear HB' hb1; replace q0 := (Q0.out.to HB.out).c0; replace q1 := (Q0.out.to HB.out).c1; replace q2 := (Q1.out.to HB.out).c0; replace q3 := (Q1.out.to HB.out).c1; replace g0 := (QR.out.to HB.out).c0; replace g1 := (QR.out.to HB.out).c1; replace u0 := (QR.out.to HB.out).f0; replace u1 := (QR.out.to HB.out).f1
  go_upto_region 2 with fail
  obtain ⟨W1, hW1⟩ : ∃ W : World, W = (w1.alloc (.cells #[.bool (decide (q < 0)), .slice A3 (ln q.natAbs) c3] 38)).alloc (.cells #[.bool (decide (r < 0)), .slice A4 (ln r.natAbs) c4] 38) := ⟨_, rfl⟩
  rw [← hW1]
  obtain ⟨hX, hY, hbw⟩ := boxes2 hW1
  replace HN3 := Hd.mk (HN3.out.to hbw)
  have HB' : Hd (Below W0.heap.size W0 _) := ⟨bel_then (by repeat (first | exact HB.out | exact Below.refl _ _ | refine below_alloc ?_ _ | refine below_drewN ?_ _ | refine below_drew ?_ | refine below_set ?_ (by first | exact Nat.le_refl _ | omega | (simp; done) | (simp; omega)) _)) hbw⟩; clear HB; have HB := HB'; clear HB' hbw; replace q0 := (Q0.out.to HB.out).c0; replace q1 := (Q0.out.to HB.out).c1; replace q2 := (Q1.out.to HB.out).c0; replace q3 := (Q1.out.to HB.out).c1; replace g0 := (QR.out.to HB.out).c0; replace g1 := (QR.out.to HB.out).c1; replace u0 := (QR.out.to HB.out).f0; replace u1 := (QR.out.to HB.out).f1
  have x0 := hX.c0
  have x1 := hX.c1
  clear hW1 hX hY
  go_wp2_with fail
  obtain ⟨k0, k1, k2⟩ := two_set g0 g1 (.bool (decide (q < 0))) (.slice A3 (ln q.natAbs) c3)
  refine bodyPost_ret (v := .agg #[.bool (decide (q < 0)), .slice A3 (ln q.natAbs) c3]) (by simp [results, Try.results97, go_sem, k0, k1]) rfl ?_
  exact ⟨A3, c3, rfl, (HN3.out.set_ g0 (by intro t; simp) _).set_ k2 (by intro t; simp) _, (by repeat (first | exact bel_then HW.out HB.out | refine below_set ?_ (by first | exact Nat.le_refl _ | omega | (simp; done) | (simp; omega)) _ | refine below_alloc ?_ _ | refine below_drewN ?_ _ | refine below_drew ?_))⟩
theorem raw_ok_num (z : Int) (A : Option Addr) (c : Nat) (hl : ln z.natAbs ≤ 256) : Raw.ok ⟨decide (z < 0), A, c, dig z.natAbs⟩ = true := by
  unfold Raw.ok
  simp only [Bool.and_eq_true, decide_eq_true_eq, Bool.not_eq_true', Bool.and_eq_false_iff, decide_eq_false_iff_not]
  refine ⟨⟨hl, ?_⟩, ?_⟩
  · by_cases h0 : (dig z.natAbs).length = 0
    · right
      have := ln_eq_zero.1 h0
      omega
    · exact .inl h0
  · by_cases h0 : 0 < (dig z.natAbs).length
    · right
      exact dig_last z.natAbs _ (by omega)
    · exact .inl h0
end Go.Proofs.Ytcjcpfafalkceaa
set_option linter.unusedVariables false
namespace Go.Proofs.Ytcjcpfafalkceaa
def qn (n d : Int) : Int := (if d < 0 then -n else n) / zgcd n d
def qd (n d : Int) : Int := (d.natAbs : Int) / zgcd n d
theorem zgcd_neg (n d : Int) : zgcd (-n) (-d) = zgcd n d := by unfold zgcd; rw [Int.natAbs_neg, Int.natAbs_neg]
theorem qn_mul (n d : Int) : zgcd n d * qn n d = if d < 0 then -n else n := by
  unfold qn
  refine Int.mul_ediv_cancel' ?_
  split
  · exact Int.dvd_neg.2 (zgcd_left n d)
  · exact zgcd_left n d
theorem qd_mul (n d : Int) : zgcd n d * qd n d = (d.natAbs : Int) := exm_mul n d
theorem qd_pos {n d : Int} (h : d ≠ 0) : 0 < qd n d := exm_pos h
theorem q_cross (n d : Int) : qn n d * d = n * qd n d := by
  by_cases hd : d = 0
  · subst hd
    have h := qd_mul n 0
    rw [show ((Int.natAbs 0 : Nat) : Int) = 0 from rfl] at h
    rcases Int.mul_eq_zero.1 h with h | h
    · have := zgcd_left n 0
      rw [h] at this
      rw [Int.zero_dvd.1 this]; simp
    · rw [h]; simp
  · have hg := zgcd_pos (p := n) hd
    have h1 := qn_mul n d
    have h2 := qd_mul n d
    apply Int.eq_of_mul_eq_mul_left (show zgcd n d ≠ 0 by omega)
    rw [← Int.mul_assoc, h1, show zgcd n d * (n * qd n d) = n * (zgcd n d * qd n d) from Int.mul_left_comm _ _ _, h2]
    split
    · rw [show ((d.natAbs : Nat) : Int) = -d by omega, Int.mul_neg, Int.neg_mul]
    · rw [show ((d.natAbs : Nat) : Int) = d by omega]
theorem q_gcd {n d : Int} (h : d ≠ 0) : Int.gcd (qn n d) (qd n d) = 1 := by
  have hg := zgcd_pos (p := n) h
  have h1 := qn_mul n d
  have h2 := qd_mul n d
  have hk : zgcd (zgcd n d * qn n d) (zgcd n d * qd n d) = zgcd n d := by
    rw [h1, h2]
    unfold zgcd
    congr 1
    rw [Int.natAbs_natCast]
    split
    · rw [Int.natAbs_neg]
    · rfl
  rw [zgcd_eq, Int.gcd_mul_left] at hk
  have h3 : ((zgcd n d).natAbs : Int) = zgcd n d := by omega
  rw [Int.natCast_mul, h3] at hk
  have h4 : zgcd n d * ((Int.gcd (qn n d) (qd n d) : Nat) : Int) = zgcd n d * 1 := by rw [hk, Int.mul_one]
  have h5 := Int.eq_of_mul_eq_mul_left (show zgcd n d ≠ 0 by omega) h4
  omega
theorem q_uniq {n d a b : Int} (hd : d ≠ 0) (hb : 0 < b) (hg : Int.gcd a b = 1) (h : a * d = n * b) : qn n d = a ∧ qd n d = b := by
  have h1 := q_cross n d
  have h2 := qd_pos (n := n) hd
  have h3 := q_gcd (n := n) hd
  have hc : qn n d * b = a * qd n d := by
    apply Int.eq_of_mul_eq_mul_right hd
    have e1 : qn n d * b * d = qn n d * d * b := Int.mul_right_comm _ _ _
    have e2 : a * qd n d * d = a * d * qd n d := Int.mul_right_comm _ _ _
    rw [e1, e2, h1, h]
    exact Int.mul_right_comm _ _ _
  have d1 : qd n d ∣ b := coprime_dvd h3 ⟨a, by rw [hc, Int.mul_comm]⟩
  have d2 : b ∣ qd n d := coprime_dvd hg ⟨qn n d, by rw [← hc, Int.mul_comm]⟩
  have e : qd n d = b := Int.dvd_antisymm (by omega) (by omega) d1 d2
  refine ⟨?_, e⟩
  rw [e] at hc
  exact Int.eq_of_mul_eq_mul_right (by omega) hc
theorem qd_le (n : Int) {d : Int} (h : d ≠ 0) : (qd n d).natAbs ≤ d.natAbs := by
  have := Int.natAbs_ediv_le_natAbs (d.natAbs : Int) (zgcd n d)
  rw [Int.natAbs_natCast] at this
  exact this
theorem qn_le (n d : Int) : (qn n d).natAbs ≤ n.natAbs := by
  unfold qn
  split
  · have := Int.natAbs_ediv_le_natAbs (-n) (zgcd n d)
    rwa [Int.natAbs_neg] at this
  · exact Int.natAbs_ediv_le_natAbs n (zgcd n d)
theorem low_n (n d : Int) : (if d / zgcd n d < 0 then -(n / zgcd n d) else n / zgcd n d) = qn n d := by
  by_cases hd : d = 0
  · subst hd
    unfold qn
    rw [Int.zero_ediv, if_neg (by omega), if_neg (by omega)]
  have hg := zgcd_pos (p := n) hd
  obtain ⟨k, hk⟩ := zgcd_right n d
  obtain ⟨m, hm⟩ := zgcd_left n d
  have e1 : d / zgcd n d = k := by conv => lhs; lhs; rw [hk]
                                   exact Int.mul_ediv_cancel_left _ (by omega)
  have e2 : n / zgcd n d = m := by conv => lhs; lhs; rw [hm]
                                   exact Int.mul_ediv_cancel_left _ (by omega)
  have e3 : -n / zgcd n d = -m := by conv => lhs; lhs; rw [hm, ← Int.mul_neg]
                                     exact Int.mul_ediv_cancel_left _ (by omega)
  have hs : k < 0 ↔ d < 0 := by
    constructor
    · intro h; rw [hk]; exact Int.mul_neg_of_pos_of_neg hg h
    · intro h
      rcases Int.lt_or_le k 0 with h2 | h2
      · exact h2
      · have := Int.mul_nonneg (show 0 ≤ zgcd n d by omega) h2
        rw [← hk] at this; omega
  unfold qn
  rw [e1, e2]
  by_cases h : d < 0
  · rw [if_pos h, if_pos (hs.2 h), e3]
  · rw [if_neg h, if_neg (fun h2 => h (hs.1 h2)), e2]
theorem low_d (n : Int) {d : Int} (hd : d ≠ 0) : (if d / zgcd n d < 0 then -(d / zgcd n d) else d / zgcd n d) = qd n d := by
  have hg := zgcd_pos (p := n) hd
  have h2 := qd_mul n d
  obtain ⟨k, hk⟩ := zgcd_right n d
  have e1 : d / zgcd n d = k := by conv => lhs; lhs; rw [hk]
                                   exact Int.mul_ediv_cancel_left _ (by omega)
  rw [e1]
  apply Int.eq_of_mul_eq_mul_left (show zgcd n d ≠ 0 by omega)
  rw [h2]
  conv => rhs; rw [hk]
  rw [Int.natAbs_mul, Int.natCast_mul, show ((zgcd n d).natAbs : Int) = zgcd n d by omega]
  congr 1
  split <;> omega
theorem field_mul {a b c d : Int} (hb : 0 < b) (hg : Int.gcd a b = 1) (hd : 0 < d) (hc : c ≠ 0) :
    qn (qn (a * c) (b * d) * d) (qd (a * c) (b * d) * c) = a ∧ qd (qn (a * c) (b * d) * d) (qd (a * c) (b * d) * c) = b := by
  have hbd : b * d ≠ 0 := Int.mul_ne_zero (by omega) (by omega)
  have hq := qd_pos (n := a * c) hbd
  have h1 := q_cross (a * c) (b * d)
  refine q_uniq (Int.mul_ne_zero (by omega) hc) hb hg ?_
  calc a * (qd (a * c) (b * d) * c) = a * c * qd (a * c) (b * d) := by rw [Int.mul_comm (qd _ _) c, Int.mul_assoc]
    _ = qn (a * c) (b * d) * (b * d) := h1.symm
    _ = qn (a * c) (b * d) * d * b := by rw [Int.mul_comm b d, Int.mul_assoc]
theorem field_add {a b c d : Int} (hb : 0 < b) (hg : Int.gcd a b = 1) (hd : 0 < d) :
    qn (qn (a * d + c * b) (b * d) * d - c * qd (a * d + c * b) (b * d)) (qd (a * d + c * b) (b * d) * d) = a ∧ qd (qn (a * d + c * b) (b * d) * d - c * qd (a * d + c * b) (b * d)) (qd (a * d + c * b) (b * d) * d) = b := by
  have hbd : b * d ≠ 0 := Int.mul_ne_zero (by omega) (by omega)
  have hq := qd_pos (n := a * d + c * b) hbd
  have h1 := q_cross (a * d + c * b) (b * d)
  obtain ⟨N, hN⟩ : ∃ N, N = qn (a * d + c * b) (b * d) := ⟨_, rfl⟩
  obtain ⟨D, hD⟩ : ∃ D, D = qd (a * d + c * b) (b * d) := ⟨_, rfl⟩
  rw [← hN, ← hD] at h1 ⊢
  rw [← hD] at hq
  refine q_uniq (Int.mul_ne_zero (by omega) (by omega)) hb hg ?_
  rw [Int.sub_mul]
  have e1 : N * d * b = N * (b * d) := by rw [Int.mul_comm b d, Int.mul_assoc]
  have e2 : a * (D * d) = a * d * D := by rw [Int.mul_comm D d, Int.mul_assoc]
  have e3 : c * D * b = c * b * D := Int.mul_right_comm _ _ _
  rw [e1, e2, e3, h1, Int.add_mul]
  omega
theorem floor_low {a b : Int} (hb : 0 < b) : a / b * b ≤ a ∧ a < a / b * b + b := by
  have h1 := Int.mul_ediv_add_emod a b
  have h2 := Int.emod_nonneg a (show b ≠ 0 by omega)
  have h3 := Int.emod_lt_of_pos a hb
  rw [Int.mul_comm] at h1
  omega
end Go.Proofs.Ytcjcpfafalkceaa
