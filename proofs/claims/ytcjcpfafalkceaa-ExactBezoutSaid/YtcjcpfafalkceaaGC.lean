/- Greatest common divisors: the program's gcd, Gcd; the reference's Common, Gcd. -/
import Derived.Test.YtcjcpfafalkceaaGB
import Derived.Test.YtcjcpfafalkceaaZ
import Derived.Test.YtcjcpfafalkceaaM
set_option linter.unusedVariables false
set_option linter.unusedSimpArgs false
namespace Go.Proofs.Ytcjcpfafalkceaa
open Go.RowKit
set_option maxHeartbeats 1000000 in
set_option maxRecDepth 100000 in
theorem gcd_calls (A1 : Option Addr) (c1 n : Nat) (A2 : Option Addr) (c2 m : Nat) (w : World) (h1 : NN w A1 c1 n) (h2 : NN w A2 c2 m) (l1 : ln n ≤ 268435456) (l2 : ln m ≤ 268435456) :
    Calls Try.prog 91 #[.slice A1 (ln n) c1, .slice A2 (ln m) c2] w (RetN (Nat.gcd n m) w) := by
  have HX := Hd.mk h1
  have HY := Hd.mk h2
  clear h1 h2
  go_enter Try.func91, Try.ntmps91
  go_wp2_with fail
  go_loopg [0, 1] m (fun g s0 s1 wr => ∃ (a b : Nat) (A : Option Addr) (c : Nat) (A' : Option Addr) (c' : Nat), s0 = .slice A (ln a) c ∧ s1 = .slice A' (ln b) c' ∧ NN wr A c a ∧ NN wr A' c' b ∧ Nat.gcd a b = Nat.gcd n m ∧ ln a ≤ 268435456 ∧ ln b ≤ 268435456 ∧ b ≤ g ∧ Below w.heap.size w wr)
  case atStart => exact ⟨n, m, A1, c1, A2, c2, rfl, rfl, HX.out, HY.out, rfl, l1, l2, Nat.le_refl _, Below.refl _ _⟩
  case round =>
    obtain ⟨a, b, A, c, A', c', rfl, rfl, hna, hnb, hg, hla, hlb, hbg, hbel⟩ := hrel
    have HA := Hd.mk hna
    have HBb := Hd.mk hnb
    have HG := Hd.mk hg
    have HBG := Hd.mk hbg
    have HB := Hd.mk hbel
    clear hna hnb hg hbg hbel
    go_wp2_with fail
    refine (zero_calls _ _ _ _ (by omega)).mono ?_
    rintro e w1 ⟨rfl, rfl⟩
    by_cases hb0 : b = 0
    · have hd : decide (ln b = 0) = true := decide_eq_true (by rw [hb0, ln_zero])
      rw [hd]
      have he : Nat.gcd n m = a := by rw [← HG.out, hb0, Nat.gcd_zero_right]
      have HE := Hd.mk he
      clear hd hb0 he
      go_wp2_with fail
      go_ret
      exact ⟨A, c, by rw [HE.out]; rfl, by rw [HE.out]; exact HA.out, HB.out⟩
    · have hd : decide (ln b = 0) = false := decide_eq_false (fun h => hb0 (ln_eq_zero.1 h))
      rw [hd]
      have HD := Hd.mk (div_calls A c a A' c' b wr HA.out HBb.out hb0 hla)
      have HLT : Hd (a % b < b) := ⟨Nat.mod_lt _ (by omega)⟩
      have HGG : Hd (Nat.gcd b (a % b) = Nat.gcd n m) := ⟨by rw [← HG.out, Nat.gcd_comm a b, Nat.gcd_rec b a, Nat.gcd_comm]⟩
      have hlr : ln (a % b) ≤ 268435456 := Nat.le_trans (ln_mono (Nat.le_of_lt HLT.out)) hlb
      clear hb0 hd
      go_wp2_with fail
      refine HD.out.mono ?_
      rintro e w1 ⟨A3, c3, A4, c4, rfl, hn3, hn4, hb1⟩
      have HN4 := Hd.mk hn4
      clear hn3 hn4
      go_wp2_with fail
      go_roundg (a % b)
      case measure => have := HLT.out; have := HBG.out; omega
      case rel => exact ⟨b, a % b, A', c', A4, c4, rfl, rfl, HBb.out.to hb1, HN4.out, HGG.out, hlb, hlr, Nat.le_refl _, bel_then HB.out hb1⟩
/-- The greatest common divisor of two whole numbers. -/
def zgcd (x y : Int) : Int := (Nat.gcd x.natAbs y.natAbs : Nat)
theorem zgcd_abs (x y : Int) : (zgcd x y).natAbs = Nat.gcd x.natAbs y.natAbs := by unfold zgcd; omega
theorem zgcd_sign (x y : Int) : decide (zgcd x y < 0) = false := decide_eq_false (by unfold zgcd; omega)
theorem zgcd_ln (x y : Int) : ln (zgcd x y).natAbs ≤ max (ln x.natAbs) (ln y.natAbs) := by
  rw [zgcd_abs]
  by_cases h : x.natAbs = 0
  · rw [h, Nat.gcd_zero_left]; omega
  · exact Nat.le_trans (ln_mono (Nat.gcd_le_left _ (by omega))) (by omega)
set_option maxRecDepth 100000 in
theorem wgcd_calls (x y : Int) (A1 : Option Addr) (c1 : Nat) (A2 : Option Addr) (c2 : Nat) (w : World) (h1 : NN w A1 c1 x.natAbs) (h2 : NN w A2 c2 y.natAbs) (l1 : ln x.natAbs ≤ 268435456) (l2 : ln y.natAbs ≤ 268435456) :
    Calls Try.prog 95 #[.agg #[.bool (decide (x < 0)), .slice A1 (ln x.natAbs) c1], .agg #[.bool (decide (y < 0)), .slice A2 (ln y.natAbs) c2]] w (RetZ (zgcd x y) w) := by
  have HT := Hd.mk (fun W (hW : Below w.heap.size w W) => gcd_calls A1 c1 x.natAbs A2 c2 y.natAbs W (h1.to hW) (h2.to hW) l1 l2)
  unfold RetZ
  rw [zgcd_sign, zgcd_abs]
  clear h1 h2
  obtain ⟨b1, hb1⟩ : ∃ b, b = decide (x < 0) := ⟨_, rfl⟩
  obtain ⟨b2, hb2⟩ : ∃ b, b = decide (y < 0) := ⟨_, rfl⟩
  rw [← hb1, ← hb2]
  clear hb1 hb2
  obtain ⟨g, hg⟩ : ∃ g, g = Nat.gcd x.natAbs y.natAbs := ⟨_, rfl⟩
  rw [← hg] at HT ⊢
  obtain ⟨n1, hn1⟩ : ∃ n, n = ln x.natAbs := ⟨_, rfl⟩
  obtain ⟨n2, hn2⟩ : ∃ n, n = ln y.natAbs := ⟨_, rfl⟩
  rw [← hn1, ← hn2] at HT ⊢
  clear hg hn1 hn2
  go_enter Try.func95, Try.ntmps95
  go_wp2_with fail
  obtain ⟨W0, hW0⟩ : ∃ W : World, W = ((w.alloc (.cells #[.bool b1, .slice A1 n1 c1] 70)).alloc (.cells #[.bool b2, .slice A2 n2 c2] 70)).alloc (.cells #[.bool false, .slice none 0 0] 70) := ⟨_, rfl⟩
  rw [← hW0]
  have HSZ : Hd (w.heap.size + 1 + 1 + 1 = W0.heap.size) := ⟨by rw [hW0]; simp⟩
  obtain ⟨hB0, hB1, hB2, hBW⟩ := boxes3 hW0
  have q0 := hB0.c0
  have q1 := hB0.c1
  have q2 := hB1.c0
  have q3 := hB1.c1
  have g0 := hB2.c0
  have g1 := hB2.c1
  have u0 := hB2.f0
  have u1 := hB2.f1
  have Q0 := Hd.mk hB0
  have Q1 := Hd.mk hB1
  have QR := Hd.mk hB2
  have HW := Hd.mk hBW
  have HB : Hd (Below W0.heap.size W0 W0) := ⟨Below.refl _ _⟩
  clear hB0 hB1 hB2 hBW hW0
  refine (HT.out _ (bel_then HW.out (by repeat (first | exact HB.out | exact Below.refl _ _ | refine below_alloc ?_ _ | refine below_drewN ?_ _ | refine below_drew ?_ | refine below_set ?_ (by first | exact Nat.le_refl _ | omega | (simp; done) | (simp; omega)) _)))).mono ?_
  rintro e w1 ⟨A3, c3, rfl, hn3, hb1⟩
  have HN := Hd.mk hn3
  clear hn3
  have HB' : Hd (Below W0.heap.size W0 _) := ⟨bel_then (by repeat (first | exact HB.out | exact Below.refl _ _ | refine below_alloc ?_ _ | refine below_drewN ?_ _ | refine below_drew ?_ | refine below_set ?_ (by first | exact Nat.le_refl _ | omega | (simp; done) | (simp; omega)) _)) hb1⟩; clear HB; have HB := HB'; clear HB' hb1; replace q0 := (Q0.out.to HB.out).c0; replace q1 := (Q0.out.to HB.out).c1; replace q2 := (Q1.out.to HB.out).c0; replace q3 := (Q1.out.to HB.out).c1; replace g0 := (QR.out.to HB.out).c0; replace g1 := (QR.out.to HB.out).c1; replace u0 := (QR.out.to HB.out).f0; replace u1 := (QR.out.to HB.out).f1
  go_wp2_with fail
  obtain ⟨k0, k1, k2⟩ := two_set g0 g1 (.bool false) (.slice A3 (ln g) c3)
  refine bodyPost_ret (v := .agg #[.bool false, .slice A3 (ln g) c3]) (by simp [results, Try.results95, go_sem, k0, k1]) rfl ?_
  exact ⟨A3, c3, rfl, (HN.out.set_ g0 (by intro t; simp) _).set_ k2 (by intro t; simp) _, (by repeat (first | exact bel_then HW.out HB.out | refine below_set ?_ (by first | exact Nat.le_refl _ | omega | (simp; done) | (simp; omega)) _ | refine below_alloc ?_ _ | refine below_drewN ?_ _ | refine below_drew ?_))⟩
set_option maxRecDepth 100000 in
theorem rCommon_calls (x y : Int) (A1 : Option Addr) (c1 : Nat) (A2 : Option Addr) (c2 : Nat) (w : World) (h1 : NN w A1 c1 x.natAbs) (h2 : NN w A2 c2 y.natAbs) (l1 : ln x.natAbs ≤ 268435456) (l2 : ln y.natAbs ≤ 268435456) :
    Calls Try.prog 96 #[.agg #[.bool (decide (x < 0)), .slice A1 (ln x.natAbs) c1], .agg #[.bool (decide (y < 0)), .slice A2 (ln y.natAbs) c2]] w (RetZ (zgcd x y) w) := by
  have HT := Hd.mk (fun W (hW : Below w.heap.size w W) => divisor_calls A1 c1 x.natAbs A2 c2 y.natAbs W (h1.to hW) (h2.to hW) l1 l2)
  have hgl := zgcd_ln x y
  unfold RetZ
  rw [zgcd_abs] at hgl
  rw [zgcd_sign, zgcd_abs]
  clear h1 h2
  obtain ⟨b1, hb1⟩ : ∃ b, b = decide (x < 0) := ⟨_, rfl⟩
  obtain ⟨b2, hb2⟩ : ∃ b, b = decide (y < 0) := ⟨_, rfl⟩
  rw [← hb1, ← hb2]
  clear hb1 hb2
  obtain ⟨g, hg⟩ : ∃ g, g = Nat.gcd x.natAbs y.natAbs := ⟨_, rfl⟩
  rw [← hg] at HT hgl ⊢
  obtain ⟨n1, hn1⟩ : ∃ n, n = ln x.natAbs := ⟨_, rfl⟩
  obtain ⟨n2, hn2⟩ : ∃ n, n = ln y.natAbs := ⟨_, rfl⟩
  rw [← hn1, ← hn2] at HT hgl ⊢
  rw [← hn1] at l1
  rw [← hn2] at l2
  have hgl2 : ln g ≤ 9223372036854775807 := by omega
  clear hg hn1 hn2 hgl
  go_enter Try.func96, Try.ntmps96
  go_wp2_with fail
  obtain ⟨W0, hW0⟩ : ∃ W : World, W = ((w.alloc (.cells #[.bool b1, .slice A1 n1 c1] 38)).alloc (.cells #[.bool b2, .slice A2 n2 c2] 38)).alloc (.cells #[.bool false, .slice none 0 0] 38) := ⟨_, rfl⟩
  rw [← hW0]
  have HSZ : Hd (w.heap.size + 1 + 1 + 1 = W0.heap.size) := ⟨by rw [hW0]; simp⟩
  obtain ⟨hB0, hB1, hB2, hBW⟩ := boxes3 hW0
  have q0 := hB0.c0
  have q1 := hB0.c1
  have q2 := hB1.c0
  have q3 := hB1.c1
  have g0 := hB2.c0
  have g1 := hB2.c1
  have u0 := hB2.f0
  have u1 := hB2.f1
  have Q0 := Hd.mk hB0
  have Q1 := Hd.mk hB1
  have QR := Hd.mk hB2
  have HW := Hd.mk hBW
  have HB : Hd (Below W0.heap.size W0 W0) := ⟨Below.refl _ _⟩
  clear hB0 hB1 hB2 hBW hW0
  refine (HT.out _ (bel_then HW.out (by repeat (first | exact HB.out | exact Below.refl _ _ | refine below_alloc ?_ _ | refine below_drewN ?_ _ | refine below_drew ?_ | refine below_set ?_ (by first | exact Nat.le_refl _ | omega | (simp; done) | (simp; omega)) _)))).mono ?_
  rintro e w1 ⟨A3, c3, rfl, hn3, hb1⟩
  have HN3 := Hd.mk hn3
  clear hn3
  have HB' : Hd (Below W0.heap.size W0 _) := ⟨bel_then (by repeat (first | exact HB.out | exact Below.refl _ _ | refine below_alloc ?_ _ | refine below_drewN ?_ _ | refine below_drew ?_ | refine below_set ?_ (by first | exact Nat.le_refl _ | omega | (simp; done) | (simp; omega)) _)) hb1⟩; clear HB; have HB := HB'; clear HB' hb1; replace q0 := (Q0.out.to HB.out).c0; replace q1 := (Q0.out.to HB.out).c1; replace q2 := (Q1.out.to HB.out).c0; replace q3 := (Q1.out.to HB.out).c1; replace g0 := (QR.out.to HB.out).c0; replace g1 := (QR.out.to HB.out).c1; replace u0 := (QR.out.to HB.out).f0; replace u1 := (QR.out.to HB.out).f1
  go_wp2_with fail
  refine (signed_calls false false A3 (ln g) c3 _ hgl2 rfl).mono ?_
  rintro e w2 ⟨rfl, hb2⟩
  have HN := Hd.mk (HN3.out.to hb2)
  clear HN3
  have HB' : Hd (Below W0.heap.size W0 _) := ⟨bel_then (by repeat (first | exact HB.out | exact Below.refl _ _ | refine below_alloc ?_ _ | refine below_drewN ?_ _ | refine below_drew ?_ | refine below_set ?_ (by first | exact Nat.le_refl _ | omega | (simp; done) | (simp; omega)) _)) hb2⟩; clear HB; have HB := HB'; clear HB' hb2; replace q0 := (Q0.out.to HB.out).c0; replace q1 := (Q0.out.to HB.out).c1; replace q2 := (Q1.out.to HB.out).c0; replace q3 := (Q1.out.to HB.out).c1; replace g0 := (QR.out.to HB.out).c0; replace g1 := (QR.out.to HB.out).c1; replace u0 := (QR.out.to HB.out).f0; replace u1 := (QR.out.to HB.out).f1
  go_wp2_with fail
  obtain ⟨k0, k1, k2⟩ := two_set g0 g1 (.bool false) (.slice A3 (ln g) c3)
  refine bodyPost_ret (v := .agg #[.bool false, .slice A3 (ln g) c3]) (by simp [results, Try.results96, go_sem, k0, k1]) rfl ?_
  exact ⟨A3, c3, rfl, (HN.out.set_ g0 (by intro t; simp) _).set_ k2 (by intro t; simp) _, (by repeat (first | exact bel_then HW.out HB.out | refine below_set ?_ (by first | exact Nat.le_refl _ | omega | (simp; done) | (simp; omega)) _ | refine below_alloc ?_ _ | refine below_drewN ?_ _ | refine below_drew ?_))⟩
end Go.Proofs.Ytcjcpfafalkceaa
