/- Powers: the reference's Pow. -/
import Derived.Test.YtcjcpfafalkceaaPC
import Derived.Test.YtcjcpfafalkceaaX
set_option linter.unusedVariables false
set_option linter.unusedSimpArgs false
namespace Go.Proofs.Ytcjcpfafalkceaa
open Go.RowKit
theorem pow_cut {z : Int} (h : z.natAbs ≤ 1) (n : Nat) : zpow z (min n (2 - n % 2)) = zpow z n := by
  rcases Nat.eq_zero_or_pos n with h0 | h0
  · subst h0; rfl
  · rw [pow_small h h0, pow_small h (show 0 < min n (2 - n % 2) by omega)]
    have : min n (2 - n % 2) % 2 = n % 2 := by omega
    rw [this]
theorem sq_le_one {z : Int} : sgnv (z * z - 1) ≤ 0 ↔ z.natAbs ≤ 1 := by
  have h1 : z * z = ((z.natAbs * z.natAbs : Nat) : Int) := by rw [Int.natCast_mul, ← Int.natAbs_mul_self' z]
  have h2 : z.natAbs ≤ 1 ↔ z.natAbs * z.natAbs ≤ 1 := by
    constructor
    · intro h
      exact Nat.mul_le_mul h h
    · intro h
      rcases Nat.lt_or_ge 1 z.natAbs with h3 | h3
      · have := Nat.mul_le_mul h3 h3; omega
      · exact h3
  rw [h2, h1]
  generalize z.natAbs * z.natAbs = m
  unfold sgnv
  split
  · omega
  · split <;> omega
attribute [local go_sem] run_min2_int run_min_two
set_option maxHeartbeats 2000000 in
set_option maxRecDepth 100000 in
theorem rPow_calls (x : Raw) (k : Int) (w : World) (hx : x.at_ w) :
    Calls Try.prog 36 #[x.v, .int .i64 k] w (RetZE (powz x k) (powe x k) w) := by
  have HV := Hd.mk (fun W (hW : Below w.heap.size w W) => rvalid_calls x W (Raw.at_to hx hW))
  unfold powz powe
  by_cases hall : x.ok = true ∧ 0 ≤ k ∧ k ≤ 10000
  · rw [if_pos hall, if_pos hall]
    obtain ⟨hok, hk1, hk2⟩ := hall
    rw [hok] at HV
    have hl := Raw.ok_len hok hx.2.1
    have HN := Hd.mk (Raw.nn hok hx)
    obtain ⟨K, hK⟩ : ∃ K : Nat, k = (K : Int) := ⟨k.toNat, by omega⟩
    subst hK
    rw [Int.toNat_natCast]
    have hnum := (Raw.num hok hx.2.1)
    have hnv := hnum.1
    have hnl := hnum.2
    obtain ⟨zv, hzv⟩ : ∃ z, z = x.val := ⟨_, rfl⟩
    rw [← hzv] at HN hl hnv hnl ⊢
    have HNV := Hd.mk hnv
    obtain ⟨zK, hzK⟩ : ∃ z, z = zpow zv K := ⟨_, rfl⟩
    rw [← hzK]
    have HZK := Hd.mk hzK
    clear hzK
    unfold Raw.v at HV ⊢
    obtain ⟨neg, A1, c1, xs⟩ := x
    have hnb : neg = decide (zv < 0) := by
      have := HNV.out
      unfold Raw.v at this
      simp only at this
      injection this with this
      injection this with this
      injection this with this _
      injection this
    simp only at HV HN hnl ⊢
    rw [← hnl] at HV ⊢
    have HNB := Hd.mk hnb
    clear hx hok hnl hnum hnv HNV hzv hnb
    obtain ⟨n1, hn1⟩ : ∃ n, n = ln zv.natAbs := ⟨_, rfl⟩
    have HLN := Hd.mk hn1
    rw [← hn1] at HV hl ⊢
    clear hn1
    go_enter Try.func36, Try.ntmps36
    go_wp2_with fail
    obtain ⟨W0, hW0⟩ : ∃ W : World, W = (w.alloc (.cells #[.bool neg, .slice A1 n1 c1] 24)).alloc (.cells #[.bool false, .slice none 0 0] 24) := ⟨_, rfl⟩
    rw [← hW0]
    have HSZ : Hd (w.heap.size + 1 + 1 = W0.heap.size) := ⟨by rw [hW0]; simp⟩
    obtain ⟨hB0, hB1, hBW⟩ := boxes2 hW0
    have q0 := hB0.c0
    have q1 := hB0.c1
    have g0 := hB1.c0
    have g1 := hB1.c1
    have u0 := hB1.f0
    have u1 := hB1.f1
    have Q0 := Hd.mk hB0
    have QR := Hd.mk hB1
    have HW := Hd.mk hBW
    have HB : Hd (Below W0.heap.size W0 W0) := ⟨Below.refl _ _⟩
    clear hB0 hB1 hBW hW0
    refine (HV.out _ (bel_then HW.out (by repeat (first | exact HB.out | exact Below.refl _ _ | refine below_alloc ?_ _ | refine below_drewN ?_ _ | refine below_drew ?_ | refine below_set ?_ (by first | exact Nat.le_refl _ | omega | (simp; done) | (simp; omega)) _)))).mono ?_
    rintro e w1 ⟨rfl, hb1⟩
    have HB' : Hd (Below W0.heap.size W0 _) := ⟨bel_then (by repeat (first | exact HB.out | exact Below.refl _ _ | refine below_alloc ?_ _ | refine below_drewN ?_ _ | refine below_drew ?_ | refine below_set ?_ (by first | exact Nat.le_refl _ | omega | (simp; done) | (simp; omega)) _)) hb1⟩; clear HB; have HB := HB'; clear HB' hb1; replace q0 := (Q0.out.to HB.out).c0; replace q1 := (Q0.out.to HB.out).c1; replace g0 := (QR.out.to HB.out).c0; replace g1 := (QR.out.to HB.out).c1; replace u0 := (QR.out.to HB.out).f0; replace u1 := (QR.out.to HB.out).f1
    go_wp2_with fail
    refine (rOf_calls _ _ _ _ _).mono ?_
    rintro e w2 ⟨rfl, hb1⟩
    have HB' : Hd (Below W0.heap.size W0 _) := ⟨bel_then (by repeat (first | exact HB.out | exact Below.refl _ _ | refine below_alloc ?_ _ | refine below_drewN ?_ _ | refine below_drew ?_ | refine below_set ?_ (by first | exact Nat.le_refl _ | omega | (simp; done) | (simp; omega)) _)) hb1⟩; clear HB; have HB := HB'; clear HB' hb1; replace q0 := (Q0.out.to HB.out).c0; replace q1 := (Q0.out.to HB.out).c1; replace g0 := (QR.out.to HB.out).c0; replace g1 := (QR.out.to HB.out).c1; replace u0 := (QR.out.to HB.out).f0; replace u1 := (QR.out.to HB.out).f1
    go_wp2_with fail
    refine (whole_one _).mono ?_
    rintro e w3 ⟨v3, rfl, hb3, A3, c3, rfl, hn3⟩
    have HB3 : Hd (Below W0.heap.size W0 w3) := ⟨bel_then HB.out hb3⟩
    go_upto_region 4 with fail
    obtain ⟨W6, hW6⟩ : ∃ W : World, W = (w3.alloc (.cells #[.bool neg, .slice A1 n1 c1] 38)).alloc (.cells #[.bool false, .slice A3 (ln 1) c3] 38) := ⟨_, rfl⟩
    rw [← hW6]
    obtain ⟨hX, hY, hbw⟩ := boxes2 hW6
    have HA6 : Hd (HZ W6 w3.heap.size 38 zv) := ⟨A1, c1, by
      rw [HLN.out, HNB.out] at hX
      exact hX, (HN.out.to (bel_then HW.out HB3.out)).to hbw⟩
    have HP6 : Hd (HZ W6 (w3.heap.size + 1) 38 1) := ⟨A3, c3, hY, NN.to hn3 hbw⟩
    have HB6 : Hd (Below w3.heap.size w3 W6) := ⟨hbw⟩
    have hz3 : W0.heap.size ≤ w3.heap.size := HB3.out.size
    have hl1 : ln zv.natAbs ≤ 256 := by rw [← HLN.out]; exact hl
    obtain ⟨g6, hg6⟩ : ∃ g, g = w3.heap.size := ⟨_, rfl⟩
    have HGE := Hd.mk hg6
    rw [← hg6] at HA6 HP6 ⊢
    clear hW6 hX hY hbw hn3 hb3 q0 q1 g0 g1 u0 u1 HB hg6
    obtain ⟨A6, c6, hB6, hn6⟩ := HA6.out
    have x0 := hB6.c0
    have x1 := hB6.c1
    have HM := Hd.mk (rTimes_calls zv zv A6 c6 A6 c6 W6 hn6 hn6 (by omega) (by omega))
    clear hB6
    go_wp2_with fail
    refine HM.out.mono ?_
    rintro e w7 ⟨A7, c7, rfl, hn7, hb7⟩
    go_wp2_with fail
    refine (whole_one _).mono ?_
    rintro e w8 ⟨v8, rfl, hb8, A8, c8, rfl, hn8⟩
    have HO := Hd.mk (rOrder_calls (zv * zv) 1 A7 c7 A8 c8 w8 (hn7.to hb8) hn8 (by rw [Int.natAbs_mul]; exact Nat.le_trans (ln_mul _ _) (by omega)) (Nat.le_trans (ln_word (d := 1) (by omega)) (by omega)))
    have HB8 : Hd (Below w3.heap.size w3 w8) := ⟨bel_then HB6.out (bel_then hb7 hb8)⟩
    have HZ8 : Hd (HZ w8 g6 38 zv) := ⟨(HA6.out.to hb7).to hb8⟩
    have HQ8 : Hd (HZ w8 (g6 + 1) 38 1) := ⟨(HP6.out.to hb7).to hb8⟩
    clear hn6 hn7 hb7 hb8 hn8 x0 x1 HM HA6 HP6 HB6
    obtain ⟨sv, hsv⟩ : ∃ s, s = sgnv (zv * zv - 1) := ⟨_, rfl⟩
    rw [← hsv] at HO
    go_wp2_with fail
    refine HO.out.mono ?_
    rintro e w9 ⟨rfl, hb9⟩
    have HB9 : Hd (Below w3.heap.size w3 w9) := ⟨bel_then HB8.out hb9⟩
    have HZ9 := Hd.mk (HZ8.out.to hb9)
    have HQ9 := Hd.mk (HQ8.out.to hb9)
    clear hb9 HB8 HZ8 HQ8
    by_cases hs1 : zv.natAbs ≤ 1
    · have hsl : sv ≤ 0 := by rw [hsv]; exact sq_le_one.2 hs1
      obtain ⟨M, hM⟩ : ∃ M, M = min K (2 - K % 2) := ⟨_, rfl⟩
      have hmm : (if 2 - (K : Int) % 2 < (K : Int) then 2 - (K : Int) % 2 else (K : Int)) = (M : Int) := by rw [hM]; split <;> omega
      have HPW : Hd (zpow zv M = zK) := ⟨by rw [hM, HZK.out]; exact pow_cut hs1 K⟩
      have hMl : M ≤ 10000 := by omega
      have HGR : Hd (∀ i, i ≤ M → 256 < ln (zpow zv i).natAbs → 256 < ln zK.natAbs) := ⟨fun i hi hb => by
        have h1 : (zpow zv i).natAbs ≤ 1 := by
          unfold zpow
          rw [Int.natAbs_pow]
          exact Nat.le_trans (Nat.pow_le_pow_left hs1 i) (by rw [Nat.one_pow]; omega)
        have := ln_word (d := (zpow zv i).natAbs) (by omega)
        omega⟩
      clear hsv hs1 hM
      go_wp2_with fail
      clear hmm
      go_loopw [35] (fun s35 wr => ∃ i : Nat, s35 = .int .i64 (i : Int) ∧ i ≤ M ∧ HZ wr g6 38 zv ∧ HZ wr (g6 + 1) 38 (zpow zv i) ∧ ln (zpow zv i).natAbs ≤ 256 ∧ Below w3.heap.size w3 wr) (fun s35 _ => M - (intOf s35).toNat)
      case atStart => exact ⟨0, rfl, Nat.zero_le _, HZ9.out, by rw [zpow_zero]; exact HQ9.out, by rw [zpow_zero]; exact Nat.le_trans (ln_word (d := 1) (by omega)) (by omega), HB9.out⟩
      case round =>
        obtain ⟨i, rfl, hiM, hz6, hz7, hlz, hbel⟩ := hrel
        have HI := Hd.mk hiM
        have HX := Hd.mk hz6
        have HP := Hd.mk hz7
        have HBR := Hd.mk hbel
        clear hiM hz6 hz7 hbel HB9 HZ9 HQ9
        obtain ⟨Ap, cp, hBp, hnp⟩ := HP.out
        have p0 := hBp.c0
        have p1 := hBp.c1
        by_cases hlt : i < M
        · have hlt' : (i : Int) < (M : Int) := by omega
          obtain ⟨Az, cz, hBz, hnz⟩ := HX.out
          have z0 := hBz.c0
          have z1 := hBz.c1
          have hl2 := Nat.le_trans (ln_mul (zpow zv i).natAbs zv.natAbs) (Nat.add_le_add hlz hl1)
          rw [← Int.natAbs_mul, ← zpow_succ] at hl2
          have HM := Hd.mk (rTimes_calls (zpow zv i) zv Ap cp Az cz wr hnp hnz (by omega) (by omega))
          rw [← zpow_succ] at HM
          have HG2 : Hd (256 < ln (zpow zv (i + 1)).natAbs → 256 < ln zK.natAbs) := ⟨HGR.out (i + 1) (by omega)⟩
          obtain ⟨zn, hzn⟩ : ∃ z, z = zpow zv (i + 1) := ⟨_, rfl⟩
          rw [← hzn] at HM hl2 HG2
          have HZN := Hd.mk hzn
          clear hBp hnp hBz hnz hzn
          go_wp2_with fail
          refine HM.out.mono ?_
          rintro e w10 ⟨A10, c10, rfl, hn10, hb10⟩
          have HX10 := Hd.mk (HX.out.to hb10)
          have HP10 := Hd.mk (HP.out.to hb10).any
          have HB10 : Hd (Below w3.heap.size w3 w10) := ⟨bel_then HBR.out hb10⟩
          have HN10 := Hd.mk hn10
          clear hn10 hb10 p0 p1 z0 z1 HX HP HBR
          obtain ⟨f1, f2, f3, f4, hf⟩ := HP10.out
          have x0 := hf.c0
          have x1 := hf.c1
          have x2 := hf.f0
          have x3 := hf.f1
          clear hf
          go_upto_region 9 with fail
          obtain ⟨WA, hWA⟩ : ∃ W, W = put2 w10 (g6 + 1) (.bool (decide (zn < 0))) (.slice A10 (ln zn.natAbs) c10) := ⟨_, rfl⟩
          have K6 : Hd (HZ WA g6 38 zv) := ⟨by rw [hWA]; exact HX10.out.put HP10.out (by omega) _ _⟩
          have K7 : Hd (HZ WA (g6 + 1) 38 zn) := ⟨by rw [hWA]; exact HZ.set HP10.out HN10.out⟩
          have KB : Hd (Blk WA (g6 + 1) 38 [.bool (decide (zn < 0)), .slice A10 (ln zn.natAbs) c10]) := ⟨by rw [hWA]; obtain ⟨_, _, _, _, h⟩ := HP10.out; exact blk_put2 h⟩
          have HBA : Hd (Below w3.heap.size w3 WA) := ⟨by rw [hWA]; exact below_put HB10.out (by have := HGE.out; omega) _ _⟩
          unfold put2 at hWA
          rw [← hWA]
          clear hWA x0 x1 x2 x3 HX10 HP10 HB10 HN10
          have x0 := KB.out.c0
          have x1 := KB.out.c1
          go_wp2_with fail
          refine (rFits_calls _ _ _ _ _ (by omega)).mono ?_
          rintro e w11 ⟨rfl, hb11⟩
          have HB11 : Hd (Below w3.heap.size w3 w11) := ⟨bel_then HBA.out hb11⟩
          have L6 := Hd.mk (K6.out.to hb11)
          have L7 := Hd.mk (K7.out.to hb11)
          clear hb11 K6 K7 KB HBA x0 x1
          by_cases hfit : ln zn.natAbs ≤ 256
          · have hd1 : decide (ln zn.natAbs ≤ 256) = true := decide_eq_true hfit
            rw [hd1]
            clear hd1
            go_wp2_with fail
            go_roundw
            case rel => exact ⟨i + 1, by go_num, by omega, L6.out, by rw [← HZN.out]; exact L7.out, by rw [← HZN.out]; exact hfit, HB11.out⟩
            case measure => simp [intOf]; omega
          · have hd1 : decide (ln zn.natAbs ≤ 256) = false := decide_eq_false hfit
            rw [hd1]
            have hbig := HG2.out (by omega)
            have HF1 : Hd (fitz zK = 0) := ⟨by unfold fitz; rw [if_neg (by omega)]⟩
            have HF2 : Hd (fite zK = 5) := ⟨by unfold fite; rw [if_neg (by omega)]⟩
            have HB : Hd (Below W0.heap.size W0 w11) := ⟨bel_then HB3.out HB11.out⟩
            have g0 := (QR.out.to HB.out).c0
            have g1 := (QR.out.to HB.out).c1
            have u0 := (QR.out.to HB.out).f0
            have u1 := (QR.out.to HB.out).f1
            clear hd1 hbig
            go_wp2_with fail
            obtain ⟨k0, k1, k2⟩ := two_set g0 g1 (.bool false) (.slice none 0 0)
            refine bodyPost_ret (v := .tuple #[.agg #[.bool false, .slice none 0 0], .int .i64 5]) (by simp [results, Try.results36, go_sem, k0, k1]) rfl ?_
            have nsz := HSZ.out
            rw [HF1.out, HF2.out]
            exact ⟨none, 0, by rw [show ln (Int.natAbs 0) = 0 from ln_zero]; rfl, NN.nil _ _ _ (by omega), (by repeat (first | exact bel_then HW.out HB.out | refine below_set ?_ (by first | exact Nat.le_refl _ | omega | (simp; done) | (simp; omega)) _ | refine below_alloc ?_ _ | refine below_drewN ?_ _ | refine below_drew ?_))⟩
        · have hie : i = M := by have := HI.out; omega
          have HE : Hd (zpow zv i = zK) := ⟨by rw [hie]; exact HPW.out⟩
          have HNP := Hd.mk hnp
          rw [HE.out] at p0 p1 HNP hlz
          have HF1 : Hd (fitz zK = zK) := ⟨by unfold fitz; rw [if_pos hlz]⟩
          have HF2 : Hd (fite zK = 0) := ⟨by unfold fite; rw [if_pos hlz]⟩
          subst hie
          have hnlt : ¬ (i : Int) < (i : Int) := by omega
          clear hBp hnp HE HPW HGR
          go_wp2_with fail
          refine (rInt_calls _ _ _ _ _).mono ?_
          rintro e w10 ⟨rfl, hb10⟩
          have HN10 := Hd.mk (HNP.out.to hb10)
          have HB : Hd (Below W0.heap.size W0 w10) := ⟨bel_then HB3.out (bel_then HBR.out hb10)⟩
          have g0 := (QR.out.to HB.out).c0
          have g1 := (QR.out.to HB.out).c1
          have u0 := (QR.out.to HB.out).f0
          have u1 := (QR.out.to HB.out).f1
          clear hb10 p0 p1
          go_wp2_with fail
          obtain ⟨k0, k1, k2⟩ := two_set g0 g1 (.bool (decide (zK < 0))) (.slice Ap (ln (zK).natAbs) cp)
          refine bodyPost_ret (v := .tuple #[.agg #[.bool (decide (zK < 0)), .slice Ap (ln (zK).natAbs) cp], .int .i64 0]) (by simp [results, Try.results36, go_sem, k0, k1]) rfl ?_
          have nsz := HSZ.out
          exact ⟨Ap, cp, by rw [HF1.out, HF2.out], by rw [HF1.out]; exact (HN10.out.set_ g0 (by intro t; simp) _).set_ k2 (by intro t; simp) _, (by repeat (first | exact bel_then HW.out HB.out | refine below_set ?_ (by first | exact Nat.le_refl _ | omega | (simp; done) | (simp; omega)) _ | refine below_alloc ?_ _ | refine below_drewN ?_ _ | refine below_drew ?_))⟩
    · have hsl : ¬ sv ≤ 0 := by rw [hsv]; exact fun h => hs1 (sq_le_one.1 h)
      have HPW : Hd (zpow zv K = zK) := ⟨HZK.out.symm⟩
      have HGR : Hd (∀ i, i ≤ K → 256 < ln (zpow zv i).natAbs → 256 < ln zK.natAbs) := ⟨fun i hi hb => by
        rw [HZK.out]
        exact Nat.lt_of_lt_of_le hb (pow_grow (by omega) hi)⟩
      clear hsv hs1
      go_wp2_with fail
      go_loopw [35] (fun s35 wr => ∃ i : Nat, s35 = .int .i64 (i : Int) ∧ i ≤ K ∧ HZ wr g6 38 zv ∧ HZ wr (g6 + 1) 38 (zpow zv i) ∧ ln (zpow zv i).natAbs ≤ 256 ∧ Below w3.heap.size w3 wr) (fun s35 _ => K - (intOf s35).toNat)
      case atStart => exact ⟨0, rfl, Nat.zero_le _, HZ9.out, by rw [zpow_zero]; exact HQ9.out, by rw [zpow_zero]; exact Nat.le_trans (ln_word (d := 1) (by omega)) (by omega), HB9.out⟩
      case round =>
        obtain ⟨i, rfl, hiM, hz6, hz7, hlz, hbel⟩ := hrel
        have HI := Hd.mk hiM
        have HX := Hd.mk hz6
        have HP := Hd.mk hz7
        have HBR := Hd.mk hbel
        clear hiM hz6 hz7 hbel HB9 HZ9 HQ9
        obtain ⟨Ap, cp, hBp, hnp⟩ := HP.out
        have p0 := hBp.c0
        have p1 := hBp.c1
        by_cases hlt : i < K
        · have hlt' : (i : Int) < (K : Int) := by omega
          obtain ⟨Az, cz, hBz, hnz⟩ := HX.out
          have z0 := hBz.c0
          have z1 := hBz.c1
          have hl2 := Nat.le_trans (ln_mul (zpow zv i).natAbs zv.natAbs) (Nat.add_le_add hlz hl1)
          rw [← Int.natAbs_mul, ← zpow_succ] at hl2
          have HM := Hd.mk (rTimes_calls (zpow zv i) zv Ap cp Az cz wr hnp hnz (by omega) (by omega))
          rw [← zpow_succ] at HM
          have HG2 : Hd (256 < ln (zpow zv (i + 1)).natAbs → 256 < ln zK.natAbs) := ⟨HGR.out (i + 1) (by omega)⟩
          obtain ⟨zn, hzn⟩ : ∃ z, z = zpow zv (i + 1) := ⟨_, rfl⟩
          rw [← hzn] at HM hl2 HG2
          have HZN := Hd.mk hzn
          clear hBp hnp hBz hnz hzn
          go_wp2_with fail
          refine HM.out.mono ?_
          rintro e w10 ⟨A10, c10, rfl, hn10, hb10⟩
          have HX10 := Hd.mk (HX.out.to hb10)
          have HP10 := Hd.mk (HP.out.to hb10).any
          have HB10 : Hd (Below w3.heap.size w3 w10) := ⟨bel_then HBR.out hb10⟩
          have HN10 := Hd.mk hn10
          clear hn10 hb10 p0 p1 z0 z1 HX HP HBR
          obtain ⟨f1, f2, f3, f4, hf⟩ := HP10.out
          have x0 := hf.c0
          have x1 := hf.c1
          have x2 := hf.f0
          have x3 := hf.f1
          clear hf
          go_upto_region 9 with fail
          obtain ⟨WA, hWA⟩ : ∃ W, W = put2 w10 (g6 + 1) (.bool (decide (zn < 0))) (.slice A10 (ln zn.natAbs) c10) := ⟨_, rfl⟩
          have K6 : Hd (HZ WA g6 38 zv) := ⟨by rw [hWA]; exact HX10.out.put HP10.out (by omega) _ _⟩
          have K7 : Hd (HZ WA (g6 + 1) 38 zn) := ⟨by rw [hWA]; exact HZ.set HP10.out HN10.out⟩
          have KB : Hd (Blk WA (g6 + 1) 38 [.bool (decide (zn < 0)), .slice A10 (ln zn.natAbs) c10]) := ⟨by rw [hWA]; obtain ⟨_, _, _, _, h⟩ := HP10.out; exact blk_put2 h⟩
          have HBA : Hd (Below w3.heap.size w3 WA) := ⟨by rw [hWA]; exact below_put HB10.out (by have := HGE.out; omega) _ _⟩
          unfold put2 at hWA
          rw [← hWA]
          clear hWA x0 x1 x2 x3 HX10 HP10 HB10 HN10
          have x0 := KB.out.c0
          have x1 := KB.out.c1
          go_wp2_with fail
          refine (rFits_calls _ _ _ _ _ (by omega)).mono ?_
          rintro e w11 ⟨rfl, hb11⟩
          have HB11 : Hd (Below w3.heap.size w3 w11) := ⟨bel_then HBA.out hb11⟩
          have L6 := Hd.mk (K6.out.to hb11)
          have L7 := Hd.mk (K7.out.to hb11)
          clear hb11 K6 K7 KB HBA x0 x1
          by_cases hfit : ln zn.natAbs ≤ 256
          · have hd1 : decide (ln zn.natAbs ≤ 256) = true := decide_eq_true hfit
            rw [hd1]
            clear hd1
            go_wp2_with fail
            go_roundw
            case rel => exact ⟨i + 1, by go_num, by omega, L6.out, by rw [← HZN.out]; exact L7.out, by rw [← HZN.out]; exact hfit, HB11.out⟩
            case measure => simp [intOf]; omega
          · have hd1 : decide (ln zn.natAbs ≤ 256) = false := decide_eq_false hfit
            rw [hd1]
            have hbig := HG2.out (by omega)
            have HF1 : Hd (fitz zK = 0) := ⟨by unfold fitz; rw [if_neg (by omega)]⟩
            have HF2 : Hd (fite zK = 5) := ⟨by unfold fite; rw [if_neg (by omega)]⟩
            have HB : Hd (Below W0.heap.size W0 w11) := ⟨bel_then HB3.out HB11.out⟩
            have g0 := (QR.out.to HB.out).c0
            have g1 := (QR.out.to HB.out).c1
            have u0 := (QR.out.to HB.out).f0
            have u1 := (QR.out.to HB.out).f1
            clear hd1 hbig
            go_wp2_with fail
            obtain ⟨k0, k1, k2⟩ := two_set g0 g1 (.bool false) (.slice none 0 0)
            refine bodyPost_ret (v := .tuple #[.agg #[.bool false, .slice none 0 0], .int .i64 5]) (by simp [results, Try.results36, go_sem, k0, k1]) rfl ?_
            have nsz := HSZ.out
            rw [HF1.out, HF2.out]
            exact ⟨none, 0, by rw [show ln (Int.natAbs 0) = 0 from ln_zero]; rfl, NN.nil _ _ _ (by omega), (by repeat (first | exact bel_then HW.out HB.out | refine below_set ?_ (by first | exact Nat.le_refl _ | omega | (simp; done) | (simp; omega)) _ | refine below_alloc ?_ _ | refine below_drewN ?_ _ | refine below_drew ?_))⟩
        · have hie : i = K := by have := HI.out; omega
          have HE : Hd (zpow zv i = zK) := ⟨by rw [hie]; exact HPW.out⟩
          have HNP := Hd.mk hnp
          rw [HE.out] at p0 p1 HNP hlz
          have HF1 : Hd (fitz zK = zK) := ⟨by unfold fitz; rw [if_pos hlz]⟩
          have HF2 : Hd (fite zK = 0) := ⟨by unfold fite; rw [if_pos hlz]⟩
          subst hie
          have hnlt : ¬ (i : Int) < (i : Int) := by omega
          clear hBp hnp HE HPW HGR
          go_wp2_with fail
          refine (rInt_calls _ _ _ _ _).mono ?_
          rintro e w10 ⟨rfl, hb10⟩
          have HN10 := Hd.mk (HNP.out.to hb10)
          have HB : Hd (Below W0.heap.size W0 w10) := ⟨bel_then HB3.out (bel_then HBR.out hb10)⟩
          have g0 := (QR.out.to HB.out).c0
          have g1 := (QR.out.to HB.out).c1
          have u0 := (QR.out.to HB.out).f0
          have u1 := (QR.out.to HB.out).f1
          clear hb10 p0 p1
          go_wp2_with fail
          obtain ⟨k0, k1, k2⟩ := two_set g0 g1 (.bool (decide (zK < 0))) (.slice Ap (ln (zK).natAbs) cp)
          refine bodyPost_ret (v := .tuple #[.agg #[.bool (decide (zK < 0)), .slice Ap (ln (zK).natAbs) cp], .int .i64 0]) (by simp [results, Try.results36, go_sem, k0, k1]) rfl ?_
          have nsz := HSZ.out
          exact ⟨Ap, cp, by rw [HF1.out, HF2.out], by rw [HF1.out]; exact (HN10.out.set_ g0 (by intro t; simp) _).set_ k2 (by intro t; simp) _, (by repeat (first | exact bel_then HW.out HB.out | refine below_set ?_ (by first | exact Nat.le_refl _ | omega | (simp; done) | (simp; omega)) _ | refine below_alloc ?_ _ | refine below_drewN ?_ _ | refine below_drew ?_))⟩
  · rw [if_neg hall, if_neg hall]
    unfold Raw.v
    obtain ⟨neg, A1, c1, xs⟩ := x
    by_cases hok : Raw.ok ⟨neg, A1, c1, xs⟩ = true
    · rw [hok] at HV
      unfold Raw.v at HV
      simp only at HV hall ⊢
      obtain ⟨n1, hn1⟩ : ∃ n, n = xs.length := ⟨_, rfl⟩
      rw [← hn1] at HV ⊢
      clear hn1
      by_cases hk1 : k < 0
      · clear hall hok hx
        go_enter Try.func36, Try.ntmps36
        go_wp2_with fail
        obtain ⟨W0, hW0⟩ : ∃ W : World, W = (w.alloc (.cells #[.bool neg, .slice A1 n1 c1] 24)).alloc (.cells #[.bool false, .slice none 0 0] 24) := ⟨_, rfl⟩
        rw [← hW0]
        have HSZ : Hd (w.heap.size + 1 + 1 = W0.heap.size) := ⟨by rw [hW0]; simp⟩
        obtain ⟨hB0, hB1, hBW⟩ := boxes2 hW0
        have q0 := hB0.c0
        have q1 := hB0.c1
        have g0 := hB1.c0
        have g1 := hB1.c1
        have u0 := hB1.f0
        have u1 := hB1.f1
        have Q0 := Hd.mk hB0
        have QR := Hd.mk hB1
        have HW := Hd.mk hBW
        have HB : Hd (Below W0.heap.size W0 W0) := ⟨Below.refl _ _⟩
        clear hB0 hB1 hBW hW0
        refine (HV.out _ (bel_then HW.out (by repeat (first | exact HB.out | exact Below.refl _ _ | refine below_alloc ?_ _ | refine below_drewN ?_ _ | refine below_drew ?_ | refine below_set ?_ (by first | exact Nat.le_refl _ | omega | (simp; done) | (simp; omega)) _)))).mono ?_
        rintro e w1 ⟨rfl, hb1⟩
        have HB' : Hd (Below W0.heap.size W0 _) := ⟨bel_then (by repeat (first | exact HB.out | exact Below.refl _ _ | refine below_alloc ?_ _ | refine below_drewN ?_ _ | refine below_drew ?_ | refine below_set ?_ (by first | exact Nat.le_refl _ | omega | (simp; done) | (simp; omega)) _)) hb1⟩; clear HB; have HB := HB'; clear HB' hb1; replace q0 := (Q0.out.to HB.out).c0; replace q1 := (Q0.out.to HB.out).c1; replace g0 := (QR.out.to HB.out).c0; replace g1 := (QR.out.to HB.out).c1; replace u0 := (QR.out.to HB.out).f0; replace u1 := (QR.out.to HB.out).f1
        go_wp2_with fail
        obtain ⟨k0, k1, k2⟩ := two_set g0 g1 (.bool false) (.slice none 0 0)
        refine bodyPost_ret (v := .tuple #[.agg #[.bool false, .slice none 0 0], .int .i64 2]) (by simp [results, Try.results36, go_sem, k0, k1]) rfl ?_
        have nsz := HSZ.out
        exact ⟨none, 0, by rw [show ln (Int.natAbs 0) = 0 from ln_zero]; rfl, NN.nil _ _ _ (by omega), (by repeat (first | exact bel_then HW.out HB.out | refine below_set ?_ (by first | exact Nat.le_refl _ | omega | (simp; done) | (simp; omega)) _ | refine below_alloc ?_ _ | refine below_drewN ?_ _ | refine below_drew ?_))⟩
      · have hk2 : 10000 < k := by
          rcases Int.lt_or_le 10000 k with h | h
          · exact h
          · exact absurd ⟨hok, by omega, h⟩ hall
        clear hall hok hx
        go_enter Try.func36, Try.ntmps36
        go_wp2_with fail
        obtain ⟨W0, hW0⟩ : ∃ W : World, W = (w.alloc (.cells #[.bool neg, .slice A1 n1 c1] 24)).alloc (.cells #[.bool false, .slice none 0 0] 24) := ⟨_, rfl⟩
        rw [← hW0]
        have HSZ : Hd (w.heap.size + 1 + 1 = W0.heap.size) := ⟨by rw [hW0]; simp⟩
        obtain ⟨hB0, hB1, hBW⟩ := boxes2 hW0
        have q0 := hB0.c0
        have q1 := hB0.c1
        have g0 := hB1.c0
        have g1 := hB1.c1
        have u0 := hB1.f0
        have u1 := hB1.f1
        have Q0 := Hd.mk hB0
        have QR := Hd.mk hB1
        have HW := Hd.mk hBW
        have HB : Hd (Below W0.heap.size W0 W0) := ⟨Below.refl _ _⟩
        clear hB0 hB1 hBW hW0
        refine (HV.out _ (bel_then HW.out (by repeat (first | exact HB.out | exact Below.refl _ _ | refine below_alloc ?_ _ | refine below_drewN ?_ _ | refine below_drew ?_ | refine below_set ?_ (by first | exact Nat.le_refl _ | omega | (simp; done) | (simp; omega)) _)))).mono ?_
        rintro e w1 ⟨rfl, hb1⟩
        have HB' : Hd (Below W0.heap.size W0 _) := ⟨bel_then (by repeat (first | exact HB.out | exact Below.refl _ _ | refine below_alloc ?_ _ | refine below_drewN ?_ _ | refine below_drew ?_ | refine below_set ?_ (by first | exact Nat.le_refl _ | omega | (simp; done) | (simp; omega)) _)) hb1⟩; clear HB; have HB := HB'; clear HB' hb1; replace q0 := (Q0.out.to HB.out).c0; replace q1 := (Q0.out.to HB.out).c1; replace g0 := (QR.out.to HB.out).c0; replace g1 := (QR.out.to HB.out).c1; replace u0 := (QR.out.to HB.out).f0; replace u1 := (QR.out.to HB.out).f1
        go_wp2_with fail
        obtain ⟨k0, k1, k2⟩ := two_set g0 g1 (.bool false) (.slice none 0 0)
        refine bodyPost_ret (v := .tuple #[.agg #[.bool false, .slice none 0 0], .int .i64 2]) (by simp [results, Try.results36, go_sem, k0, k1]) rfl ?_
        have nsz := HSZ.out
        exact ⟨none, 0, by rw [show ln (Int.natAbs 0) = 0 from ln_zero]; rfl, NN.nil _ _ _ (by omega), (by repeat (first | exact bel_then HW.out HB.out | refine below_set ?_ (by first | exact Nat.le_refl _ | omega | (simp; done) | (simp; omega)) _ | refine below_alloc ?_ _ | refine below_drewN ?_ _ | refine below_drew ?_))⟩
    · have hno : Raw.ok ⟨neg, A1, c1, xs⟩ = false := by simpa using hok
      rw [hno] at HV
      unfold Raw.v at HV
      simp only at HV ⊢
      obtain ⟨n1, hn1⟩ : ∃ n, n = xs.length := ⟨_, rfl⟩
      rw [← hn1] at HV ⊢
      clear hn1 hall hok hno hx
      go_enter Try.func36, Try.ntmps36
      go_wp2_with fail
      obtain ⟨W0, hW0⟩ : ∃ W : World, W = (w.alloc (.cells #[.bool neg, .slice A1 n1 c1] 24)).alloc (.cells #[.bool false, .slice none 0 0] 24) := ⟨_, rfl⟩
      rw [← hW0]
      have HSZ : Hd (w.heap.size + 1 + 1 = W0.heap.size) := ⟨by rw [hW0]; simp⟩
      obtain ⟨hB0, hB1, hBW⟩ := boxes2 hW0
      have q0 := hB0.c0
      have q1 := hB0.c1
      have g0 := hB1.c0
      have g1 := hB1.c1
      have u0 := hB1.f0
      have u1 := hB1.f1
      have Q0 := Hd.mk hB0
      have QR := Hd.mk hB1
      have HW := Hd.mk hBW
      have HB : Hd (Below W0.heap.size W0 W0) := ⟨Below.refl _ _⟩
      clear hB0 hB1 hBW hW0
      refine (HV.out _ (bel_then HW.out (by repeat (first | exact HB.out | exact Below.refl _ _ | refine below_alloc ?_ _ | refine below_drewN ?_ _ | refine below_drew ?_ | refine below_set ?_ (by first | exact Nat.le_refl _ | omega | (simp; done) | (simp; omega)) _)))).mono ?_
      rintro e w1 ⟨rfl, hb1⟩
      have HB' : Hd (Below W0.heap.size W0 _) := ⟨bel_then (by repeat (first | exact HB.out | exact Below.refl _ _ | refine below_alloc ?_ _ | refine below_drewN ?_ _ | refine below_drew ?_ | refine below_set ?_ (by first | exact Nat.le_refl _ | omega | (simp; done) | (simp; omega)) _)) hb1⟩; clear HB; have HB := HB'; clear HB' hb1; replace q0 := (Q0.out.to HB.out).c0; replace q1 := (Q0.out.to HB.out).c1; replace g0 := (QR.out.to HB.out).c0; replace g1 := (QR.out.to HB.out).c1; replace u0 := (QR.out.to HB.out).f0; replace u1 := (QR.out.to HB.out).f1
      go_wp2_with fail
      obtain ⟨k0, k1, k2⟩ := two_set g0 g1 (.bool false) (.slice none 0 0)
      refine bodyPost_ret (v := .tuple #[.agg #[.bool false, .slice none 0 0], .int .i64 2]) (by simp [results, Try.results36, go_sem, k0, k1]) rfl ?_
      have nsz := HSZ.out
      exact ⟨none, 0, by rw [show ln (Int.natAbs 0) = 0 from ln_zero]; rfl, NN.nil _ _ _ (by omega), (by repeat (first | exact bel_then HW.out HB.out | refine below_set ?_ (by first | exact Nat.le_refl _ | omega | (simp; done) | (simp; omega)) _ | refine below_alloc ?_ _ | refine below_drewN ?_ _ | refine below_drew ?_))⟩
end Go.Proofs.Ytcjcpfafalkceaa
