/- Powers: the program's Pow and the reference's. -/
import Derived.Test.YtcjcpfafalkceaaPB
import Derived.Test.YtcjcpfafalkceaaRH
import Derived.Test.YtcjcpfafalkceaaRoots
set_option linter.unusedVariables false
set_option linter.unusedSimpArgs false
namespace Go.Proofs.Ytcjcpfafalkceaa
open Go.RowKit
/-- What Pow answers. -/
def powz (x : Raw) (k : Int) : Int := if x.ok = true ∧ 0 ≤ k ∧ k ≤ 10000 then fitz (zpow x.val k.toNat) else 0
def powe (x : Raw) (k : Int) : Int := if x.ok = true ∧ 0 ≤ k ∧ k ≤ 10000 then fite (zpow x.val k.toNat) else 2
set_option maxHeartbeats 2000000 in
set_option maxRecDepth 100000 in
theorem Pow_calls (x : Raw) (k : Int) (w : World) (hx : x.at_ w) :
    Calls Try.prog 35 #[x.v, .int .i64 k] w (RetZE (powz x k) (powe x k) w) := by
  have HV := Hd.mk (fun g W (h : Below w.heap.size w W) (hB : Blk W g 24 [.bool x.neg, .slice x.A x.xs.length x.c]) => valid_calls [x] g 1 W (raws_one h hx hB) rfl (by omega))
  rw [all_one] at HV
  unfold powz powe
  by_cases hall : x.ok = true ∧ 0 ≤ k ∧ k ≤ 10000
  · rw [if_pos hall, if_pos hall]
    obtain ⟨hok, hk1, hk2⟩ := hall
    rw [hok] at HV
    have hl := Raw.ok_len hok hx.2.1
    have hN := Raw.nn hok hx
    obtain ⟨K, hK⟩ : ∃ K : Nat, k = (K : Int) := ⟨k.toNat, by omega⟩
    subst hK
    rw [Int.toNat_natCast]
    have HP := Hd.mk (fun W (hW : Below w.heap.size w W) => power_calls x.val K 256 x.A x.c W (hN.to hW) (by omega) (by omega) (by omega))
    rw [← (Raw.num hok hx.2.1).1] at HP
    obtain ⟨zv, hzv⟩ : ∃ z, z = x.val := ⟨_, rfl⟩
    rw [← hzv] at HP hl ⊢
    obtain ⟨zz, hzz⟩ : ∃ z, z = zpow zv K := ⟨_, rfl⟩
    rw [← hzz]
    have HZZ := Hd.mk hzz
    unfold Raw.v at HP ⊢
    obtain ⟨neg, A1, c1, xs⟩ := x
    simp only at HV HP ⊢
    obtain ⟨n1, hn1⟩ : ∃ n, n = xs.length := ⟨_, rfl⟩
    rw [← hn1] at HV HP ⊢
    clear hx hok hN hn1 hzv hzz
    rw [show ((256 : Nat) : Int) = 256 from rfl] at HP
    go_enter Try.func35, Try.ntmps35
    go_wp2_with fail
    obtain ⟨W0, hW0⟩ : ∃ W : World, W = (w.alloc (.cells #[.bool neg, .slice A1 n1 c1] 24)).alloc (.cells #[.bool false, .slice none 0 0] 24) := ⟨_, rfl⟩
    rw [← hW0]
    have HSZ : Hd (w.heap.size + 1 + 1 = W0.heap.size) := ⟨by rw [hW0]; simp⟩
    obtain ⟨hB0, hB1, hBW⟩ := boxes2 hW0
    have q0 := hB0.c0
    have q1 := hB0.c1
    have g0 := hB1.c0
    have g1 := hB1.c1
    have u0 := hB1.f0
    have u1 := hB1.f1
    have Q0 := Hd.mk hB0
    have QR := Hd.mk hB1
    have HW := Hd.mk hBW
    have HB : Hd (Below W0.heap.size W0 W0) := ⟨Below.refl _ _⟩
    clear hB0 hB1 hBW hW0
    refine (HV.out _ _ (bel_then HW.out (by repeat (first | exact HB.out | exact Below.refl _ _ | refine below_alloc ?_ _ | refine below_drewN ?_ _ | refine below_drew ?_ | refine below_set ?_ (by first | exact Nat.le_refl _ | omega | (simp; done) | (simp; omega)) _))) (blk_new HSZ.out _ _)).mono ?_
    rintro e w1 ⟨rfl, hb1⟩
    have HB' : Hd (Below W0.heap.size W0 _) := ⟨bel_then (by repeat (first | exact HB.out | exact Below.refl _ _ | refine below_alloc ?_ _ | refine below_drewN ?_ _ | refine below_drew ?_ | refine below_set ?_ (by first | exact Nat.le_refl _ | omega | (simp; done) | (simp; omega)) _)) hb1⟩; clear HB; have HB := HB'; clear HB' hb1; replace q0 := (Q0.out.to HB.out).c0; replace q1 := (Q0.out.to HB.out).c1; replace g0 := (QR.out.to HB.out).c0; replace g1 := (QR.out.to HB.out).c1; replace u0 := (QR.out.to HB.out).f0; replace u1 := (QR.out.to HB.out).f1
    go_wp2_with fail
    refine (of_calls _ _ _ _ _).mono ?_
    rintro e w2 ⟨rfl, hb1⟩
    have HB' : Hd (Below W0.heap.size W0 _) := ⟨bel_then (by repeat (first | exact HB.out | exact Below.refl _ _ | refine below_alloc ?_ _ | refine below_drewN ?_ _ | refine below_drew ?_ | refine below_set ?_ (by first | exact Nat.le_refl _ | omega | (simp; done) | (simp; omega)) _)) hb1⟩; clear HB; have HB := HB'; clear HB' hb1; replace q0 := (Q0.out.to HB.out).c0; replace q1 := (Q0.out.to HB.out).c1; replace g0 := (QR.out.to HB.out).c0; replace g1 := (QR.out.to HB.out).c1; replace u0 := (QR.out.to HB.out).f0; replace u1 := (QR.out.to HB.out).f1
    go_wp2_with fail
    refine (HP.out _ (bel_then HW.out HB.out)).mono ?_
    rintro e w3 ⟨z, ok, A3, c3, rfl, hn3, hb3, ho1, ho2, hlz⟩
    have HN3 := Hd.mk hn3
    have HO1 := Hd.mk ho1
    have HO2 := Hd.mk ho2
    clear hn3 ho1 ho2
    have HB' : Hd (Below W0.heap.size W0 _) := ⟨bel_then (by repeat (first | exact HB.out | exact Below.refl _ _ | refine below_alloc ?_ _ | refine below_drewN ?_ _ | refine below_drew ?_ | refine below_set ?_ (by first | exact Nat.le_refl _ | omega | (simp; done) | (simp; omega)) _)) hb3⟩; clear HB; have HB := HB'; clear HB' hb3; replace q0 := (Q0.out.to HB.out).c0; replace q1 := (Q0.out.to HB.out).c1; replace g0 := (QR.out.to HB.out).c0; replace g1 := (QR.out.to HB.out).c1; replace u0 := (QR.out.to HB.out).f0; replace u1 := (QR.out.to HB.out).f1
    rcases ok with _ | _
    · have hbig := HO2.out rfl
      rw [← HZZ.out] at hbig
      have HF1 : Hd (fitz zz = 0) := ⟨by unfold fitz; rw [if_neg (by omega)]⟩
      have HF2 : Hd (fite zz = 5) := ⟨by unfold fite; rw [if_neg (by omega)]⟩
      have HB' : Hd (Below W0.heap.size W0 (w3.alloc (.cells #[.bool (decide (z < 0)), .slice A3 (ln z.natAbs) c3] 70))) := ⟨HB.out.alloc HB.out.size _⟩
      have hz1 : w.heap.size + 1 < w3.heap.size := by have h1 := HB.out.size; have h2 := HSZ.out; omega
      clear hbig
      go_upto_region 5 with fail
      obtain ⟨W4, hW4⟩ : ∃ W, W = w3.alloc (.cells #[.bool (decide (z < 0)), .slice A3 (ln z.natAbs) c3] 70) := ⟨_, rfl⟩
      rw [← hW4] at HB' ⊢
      clear HB hW4
      have HB := HB'
      clear HB' hz1 q0 q1 g0 g1 u0 u1
      have g0 := (QR.out.to HB.out).c0
      have g1 := (QR.out.to HB.out).c1
      have u0 := (QR.out.to HB.out).f0
      have u1 := (QR.out.to HB.out).f1
      go_wp2_with fail
      obtain ⟨k0, k1, k2⟩ := two_set g0 g1 (.bool false) (.slice none 0 0)
      refine bodyPost_ret (v := .tuple #[.agg #[.bool false, .slice none 0 0], .int .i64 5]) (by simp [results, Try.results35, go_sem, k0, k1]) rfl ?_
      have nsz := HSZ.out
      rw [HF1.out, HF2.out]
      exact ⟨none, 0, by rw [show ln (Int.natAbs 0) = 0 from ln_zero]; rfl, NN.nil _ _ _ (by omega), (by repeat (first | exact bel_then HW.out HB.out | refine below_set ?_ (by first | exact Nat.le_refl _ | omega | (simp; done) | (simp; omega)) _ | refine below_alloc ?_ _ | refine below_drewN ?_ _ | refine below_drew ?_))⟩
    · have hz := HO1.out rfl
      rw [← HZZ.out] at hz
      have HF := Hd.mk (fun W (hW : Below w3.heap.size w3 W) => fits_calls z A3 c3 W (HN3.out.to hW) (by omega))
      rw [hz] at HF
      have HZE := Hd.mk hz
      clear hz
      obtain ⟨f1, hf1⟩ : ∃ f, f = fitz zz := ⟨_, rfl⟩
      obtain ⟨f2, hf2⟩ : ∃ f, f = fite zz := ⟨_, rfl⟩
      have HF1 := Hd.mk hf1
      have HF2 := Hd.mk hf2
      have hz1 : w.heap.size + 1 < w3.heap.size := by have h1 := HB.out.size; have h2 := HSZ.out; omega
      rw [HZE.out]
      clear hf1 hf2
      go_wp2_with fail
      refine (HF.out _ (below_alloc (Below.refl _ _) _)).mono ?_
      rintro e w5 ⟨A5, c5, rfl, hn5, hb5⟩
      have HN5 := Hd.mk hn5
      have HB' : Hd (Below W0.heap.size W0 w5) := ⟨bel_then (HB.out.alloc HB.out.size _) hb5⟩
      clear HB hn5 hb5 hz1 q0 q1 g0 g1 u0 u1
      have HB := HB'
      clear HB'
      have g0 := (QR.out.to HB.out).c0
      have g1 := (QR.out.to HB.out).c1
      have u0 := (QR.out.to HB.out).f0
      have u1 := (QR.out.to HB.out).f1
      rw [← HF1.out] at HN5 ⊢
      rw [← HF2.out]
      go_wp2_with fail
      obtain ⟨k0, k1, k2⟩ := two_set g0 g1 (.bool (decide (f1 < 0))) (.slice A5 (ln (f1).natAbs) c5)
      refine bodyPost_ret (v := .tuple #[.agg #[.bool (decide (f1 < 0)), .slice A5 (ln (f1).natAbs) c5], .int .i64 f2]) (by simp [results, Try.results35, go_sem, k0, k1]) rfl ?_
      have nsz := HSZ.out
      exact ⟨A5, c5, by rw [← HF1.out, ← HF2.out], by rw [← HF1.out]; exact (HN5.out.set_ g0 (by intro t; simp) _).set_ k2 (by intro t; simp) _, (by repeat (first | exact bel_then HW.out HB.out | refine below_set ?_ (by first | exact Nat.le_refl _ | omega | (simp; done) | (simp; omega)) _ | refine below_alloc ?_ _ | refine below_drewN ?_ _ | refine below_drew ?_))⟩
  · rw [if_neg hall, if_neg hall]
    unfold Raw.v
    obtain ⟨neg, A1, c1, xs⟩ := x
    by_cases hok : Raw.ok ⟨neg, A1, c1, xs⟩ = true
    · rw [hok] at HV
      simp only at HV hall ⊢
      obtain ⟨n1, hn1⟩ : ∃ n, n = xs.length := ⟨_, rfl⟩
      rw [← hn1] at HV ⊢
      clear hn1
      by_cases hk1 : k < 0
      · clear hall hok hx
        go_enter Try.func35, Try.ntmps35
        go_wp2_with fail
        obtain ⟨W0, hW0⟩ : ∃ W : World, W = (w.alloc (.cells #[.bool neg, .slice A1 n1 c1] 24)).alloc (.cells #[.bool false, .slice none 0 0] 24) := ⟨_, rfl⟩
        rw [← hW0]
        have HSZ : Hd (w.heap.size + 1 + 1 = W0.heap.size) := ⟨by rw [hW0]; simp⟩
        obtain ⟨hB0, hB1, hBW⟩ := boxes2 hW0
        have q0 := hB0.c0
        have q1 := hB0.c1
        have g0 := hB1.c0
        have g1 := hB1.c1
        have u0 := hB1.f0
        have u1 := hB1.f1
        have Q0 := Hd.mk hB0
        have QR := Hd.mk hB1
        have HW := Hd.mk hBW
        have HB : Hd (Below W0.heap.size W0 W0) := ⟨Below.refl _ _⟩
        clear hB0 hB1 hBW hW0
        refine (HV.out _ _ (bel_then HW.out (by repeat (first | exact HB.out | exact Below.refl _ _ | refine below_alloc ?_ _ | refine below_drewN ?_ _ | refine below_drew ?_ | refine below_set ?_ (by first | exact Nat.le_refl _ | omega | (simp; done) | (simp; omega)) _))) (blk_new HSZ.out _ _)).mono ?_
        rintro e w1 ⟨rfl, hb1⟩
        have HB' : Hd (Below W0.heap.size W0 _) := ⟨bel_then (by repeat (first | exact HB.out | exact Below.refl _ _ | refine below_alloc ?_ _ | refine below_drewN ?_ _ | refine below_drew ?_ | refine below_set ?_ (by first | exact Nat.le_refl _ | omega | (simp; done) | (simp; omega)) _)) hb1⟩; clear HB; have HB := HB'; clear HB' hb1; replace q0 := (Q0.out.to HB.out).c0; replace q1 := (Q0.out.to HB.out).c1; replace g0 := (QR.out.to HB.out).c0; replace g1 := (QR.out.to HB.out).c1; replace u0 := (QR.out.to HB.out).f0; replace u1 := (QR.out.to HB.out).f1
        go_wp2_with fail
        obtain ⟨k0, k1, k2⟩ := two_set g0 g1 (.bool false) (.slice none 0 0)
        refine bodyPost_ret (v := .tuple #[.agg #[.bool false, .slice none 0 0], .int .i64 2]) (by simp [results, Try.results35, go_sem, k0, k1]) rfl ?_
        have nsz := HSZ.out
        exact ⟨none, 0, by rw [show ln (Int.natAbs 0) = 0 from ln_zero]; rfl, NN.nil _ _ _ (by omega), (by repeat (first | exact bel_then HW.out HB.out | refine below_set ?_ (by first | exact Nat.le_refl _ | omega | (simp; done) | (simp; omega)) _ | refine below_alloc ?_ _ | refine below_drewN ?_ _ | refine below_drew ?_))⟩
      · have hk2 : 10000 < k := by
          rcases Int.lt_or_le 10000 k with h | h
          · exact h
          · exact absurd ⟨hok, by omega, h⟩ hall
        clear hall hok hx
        go_enter Try.func35, Try.ntmps35
        go_wp2_with fail
        obtain ⟨W0, hW0⟩ : ∃ W : World, W = (w.alloc (.cells #[.bool neg, .slice A1 n1 c1] 24)).alloc (.cells #[.bool false, .slice none 0 0] 24) := ⟨_, rfl⟩
        rw [← hW0]
        have HSZ : Hd (w.heap.size + 1 + 1 = W0.heap.size) := ⟨by rw [hW0]; simp⟩
        obtain ⟨hB0, hB1, hBW⟩ := boxes2 hW0
        have q0 := hB0.c0
        have q1 := hB0.c1
        have g0 := hB1.c0
        have g1 := hB1.c1
        have u0 := hB1.f0
        have u1 := hB1.f1
        have Q0 := Hd.mk hB0
        have QR := Hd.mk hB1
        have HW := Hd.mk hBW
        have HB : Hd (Below W0.heap.size W0 W0) := ⟨Below.refl _ _⟩
        clear hB0 hB1 hBW hW0
        refine (HV.out _ _ (bel_then HW.out (by repeat (first | exact HB.out | exact Below.refl _ _ | refine below_alloc ?_ _ | refine below_drewN ?_ _ | refine below_drew ?_ | refine below_set ?_ (by first | exact Nat.le_refl _ | omega | (simp; done) | (simp; omega)) _))) (blk_new HSZ.out _ _)).mono ?_
        rintro e w1 ⟨rfl, hb1⟩
        have HB' : Hd (Below W0.heap.size W0 _) := ⟨bel_then (by repeat (first | exact HB.out | exact Below.refl _ _ | refine below_alloc ?_ _ | refine below_drewN ?_ _ | refine below_drew ?_ | refine below_set ?_ (by first | exact Nat.le_refl _ | omega | (simp; done) | (simp; omega)) _)) hb1⟩; clear HB; have HB := HB'; clear HB' hb1; replace q0 := (Q0.out.to HB.out).c0; replace q1 := (Q0.out.to HB.out).c1; replace g0 := (QR.out.to HB.out).c0; replace g1 := (QR.out.to HB.out).c1; replace u0 := (QR.out.to HB.out).f0; replace u1 := (QR.out.to HB.out).f1
        go_wp2_with fail
        obtain ⟨k0, k1, k2⟩ := two_set g0 g1 (.bool false) (.slice none 0 0)
        refine bodyPost_ret (v := .tuple #[.agg #[.bool false, .slice none 0 0], .int .i64 2]) (by simp [results, Try.results35, go_sem, k0, k1]) rfl ?_
        have nsz := HSZ.out
        exact ⟨none, 0, by rw [show ln (Int.natAbs 0) = 0 from ln_zero]; rfl, NN.nil _ _ _ (by omega), (by repeat (first | exact bel_then HW.out HB.out | refine below_set ?_ (by first | exact Nat.le_refl _ | omega | (simp; done) | (simp; omega)) _ | refine below_alloc ?_ _ | refine below_drewN ?_ _ | refine below_drew ?_))⟩
    · have hno : Raw.ok ⟨neg, A1, c1, xs⟩ = false := by simpa using hok
      rw [hno] at HV
      simp only at HV ⊢
      obtain ⟨n1, hn1⟩ : ∃ n, n = xs.length := ⟨_, rfl⟩
      rw [← hn1] at HV ⊢
      clear hn1 hall hok hno hx
      go_enter Try.func35, Try.ntmps35
      go_wp2_with fail
      obtain ⟨W0, hW0⟩ : ∃ W : World, W = (w.alloc (.cells #[.bool neg, .slice A1 n1 c1] 24)).alloc (.cells #[.bool false, .slice none 0 0] 24) := ⟨_, rfl⟩
      rw [← hW0]
      have HSZ : Hd (w.heap.size + 1 + 1 = W0.heap.size) := ⟨by rw [hW0]; simp⟩
      obtain ⟨hB0, hB1, hBW⟩ := boxes2 hW0
      have q0 := hB0.c0
      have q1 := hB0.c1
      have g0 := hB1.c0
      have g1 := hB1.c1
      have u0 := hB1.f0
      have u1 := hB1.f1
      have Q0 := Hd.mk hB0
      have QR := Hd.mk hB1
      have HW := Hd.mk hBW
      have HB : Hd (Below W0.heap.size W0 W0) := ⟨Below.refl _ _⟩
      clear hB0 hB1 hBW hW0
      refine (HV.out _ _ (bel_then HW.out (by repeat (first | exact HB.out | exact Below.refl _ _ | refine below_alloc ?_ _ | refine below_drewN ?_ _ | refine below_drew ?_ | refine below_set ?_ (by first | exact Nat.le_refl _ | omega | (simp; done) | (simp; omega)) _))) (blk_new HSZ.out _ _)).mono ?_
      rintro e w1 ⟨rfl, hb1⟩
      have HB' : Hd (Below W0.heap.size W0 _) := ⟨bel_then (by repeat (first | exact HB.out | exact Below.refl _ _ | refine below_alloc ?_ _ | refine below_drewN ?_ _ | refine below_drew ?_ | refine below_set ?_ (by first | exact Nat.le_refl _ | omega | (simp; done) | (simp; omega)) _)) hb1⟩; clear HB; have HB := HB'; clear HB' hb1; replace q0 := (Q0.out.to HB.out).c0; replace q1 := (Q0.out.to HB.out).c1; replace g0 := (QR.out.to HB.out).c0; replace g1 := (QR.out.to HB.out).c1; replace u0 := (QR.out.to HB.out).f0; replace u1 := (QR.out.to HB.out).f1
      go_wp2_with fail
      obtain ⟨k0, k1, k2⟩ := two_set g0 g1 (.bool false) (.slice none 0 0)
      refine bodyPost_ret (v := .tuple #[.agg #[.bool false, .slice none 0 0], .int .i64 2]) (by simp [results, Try.results35, go_sem, k0, k1]) rfl ?_
      have nsz := HSZ.out
      exact ⟨none, 0, by rw [show ln (Int.natAbs 0) = 0 from ln_zero]; rfl, NN.nil _ _ _ (by omega), (by repeat (first | exact bel_then HW.out HB.out | refine below_set ?_ (by first | exact Nat.le_refl _ | omega | (simp; done) | (simp; omega)) _ | refine below_alloc ?_ _ | refine below_drewN ?_ _ | refine below_drew ?_))⟩
end Go.Proofs.Ytcjcpfafalkceaa
