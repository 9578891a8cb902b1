/- Roots: the program's Root. -/
import Derived.Test.YtcjcpfafalkceaaPA
import Derived.Test.YtcjcpfafalkceaaS
set_option linter.unusedVariables false
set_option linter.unusedSimpArgs false
namespace Go.Proofs.Ytcjcpfafalkceaa
open Go.RowKit
/-- The floor of the k-th root. -/
noncomputable def iroot (n k : Nat) : Nat := leastOf (fun r => n < (r + 1) ^ k)
theorem iroot_is {n k r : Nat} (hk : 0 < k) (h1 : r ^ k ≤ n) (h2 : n < (r + 1) ^ k) : iroot n k = r := by
  obtain ⟨a, b⟩ := leastOf_spec (p := fun r => n < (r + 1) ^ k) ⟨r, h2⟩
  have h3 : iroot n k ≤ r := b r h2
  have h4 : n < (iroot n k + 1) ^ k := a
  rcases Nat.lt_or_ge (iroot n k) r with h | h
  · have := Nat.pow_le_pow_left (show iroot n k + 1 ≤ r by omega) k
    omega
  · omega
theorem iroot_spec {n k : Nat} (hk : 0 < k) : (iroot n k) ^ k ≤ n ∧ n < (iroot n k + 1) ^ k := by
  have hex : ∃ r, n < (r + 1) ^ k := ⟨n, by
    have := Nat.pow_le_pow_right (show 0 < n + 1 by omega) hk
    rw [Nat.pow_one] at this
    omega⟩
  obtain ⟨a, b⟩ := leastOf_spec (p := fun r => n < (r + 1) ^ k) hex
  refine ⟨?_, a⟩
  show (leastOf fun r => n < (r + 1) ^ k) ^ k ≤ n
  rcases h : leastOf (fun r => n < (r + 1) ^ k) with _ | r
  · rw [Nat.zero_pow hk]; omega
  · have h2 := b r
    rcases Nat.lt_or_ge n ((r + 1) ^ k) with h3 | h3
    · have := h2 h3; omega
    · exact h3
theorem two_half (b : Nat) : 2 ^ b + 2 ^ b = 2 ^ (b + 1) := by rw [Nat.pow_succ]; omega
theorem root_start {n k : Nat} (hk : 0 < k) : n < (0 + 2 ^ (nbits n / k + 1)) ^ k := by
  rw [Nat.zero_add, ← Nat.pow_mul]
  refine Nat.lt_of_lt_of_le (nbits_hi n) (Nat.pow_le_pow_right (by omega) ?_)
  have h1 := Nat.div_add_mod (nbits n) k
  have h2 := Nat.mod_lt (nbits n) hk
  rw [Nat.mul_comm, Nat.mul_add]
  omega
theorem nbits_ln (n : Nat) : nbits n ≤ 32 * ln n := nbits_le.2 (by have := lt_pow_ln n; rwa [show B = 2 ^ 32 from rfl, ← Nat.pow_mul] at this)
theorem lt_root {R c n k : Nat} (h : R ^ k ≤ n) (h2 : n < c ^ k) : R < c := by
  rcases Nat.lt_or_ge R c with h3 | h3
  · exact h3
  · have := Nat.pow_le_pow_left h3 k; omega
set_option exponentiation.threshold 20000 in
theorem ln_pow2 {b : Nat} {T : Nat} (h : T ≤ 2 ^ b) (hb : b ≤ 9000) : ln T ≤ 300 := by
  refine ln_le (Nat.lt_of_le_of_lt (Nat.le_trans h (Nat.pow_le_pow_right (by omega) hb)) ?_)
  rw [show B = 2 ^ 32 from rfl, ← Nat.pow_mul]
  exact Nat.pow_lt_pow_right (by omega) (by omega)
theorem zpow_nat (T k : Nat) : zpow (T : Int) k = ((T ^ k : Nat) : Int) := by unfold zpow; simp
open Classical in
/-- What Root answers. -/
noncomputable def rootz (x : Raw) (k : Int) : Int := if x.ok = true ∧ x.neg = false ∧ 1 ≤ k ∧ k ≤ 64 then (iroot x.val.natAbs k.toNat : Int) else 0
def roote (x : Raw) (k : Int) : Int := if x.ok = true ∧ x.neg = false ∧ 1 ≤ k ∧ k ≤ 64 then 0 else 2
set_option maxHeartbeats 2000000 in
set_option maxRecDepth 100000 in
theorem Root_calls (x : Raw) (k : Int) (w : World) (hx : x.at_ w) :
    Calls Try.prog 30 #[x.v, .int .i64 k] w (RetZE (rootz x k) (roote x k) w) := by
  have HV := Hd.mk (fun g W (h : Below w.heap.size w W) (hB : Blk W g 24 [.bool x.neg, .slice x.A x.xs.length x.c]) => valid_calls [x] g 1 W (raws_one h hx hB) rfl (by omega))
  rw [all_one] at HV
  unfold rootz roote
  by_cases hall : x.ok = true ∧ x.neg = false ∧ 1 ≤ k ∧ k ≤ 64
  · rw [if_pos hall, if_pos hall]
    obtain ⟨hok, hng, hk1, hk2⟩ := hall
    rw [hok] at HV
    have hl := Raw.ok_len hok hx.2.1
    have hN := Raw.nn hok hx
    have hln := (Raw.num hok hx.2.1).2
    obtain ⟨K, hK⟩ : ∃ K : Nat, k = (K : Int) := ⟨k.toNat, by omega⟩
    subst hK
    rw [Int.toNat_natCast]
    have hK0 : 0 < K := by omega
    obtain ⟨N, hNN⟩ : ∃ N, N = x.val.natAbs := ⟨_, rfl⟩
    rw [← hNN] at hl hN hln ⊢
    have HN := Hd.mk hN
    unfold Raw.v
    obtain ⟨neg, A1, c1, xs⟩ := x
    simp only at HV hng HN hln ⊢
    subst hng
    rw [← hln] at HV ⊢
    clear hx hok hNN hN hln
    have hb0 : nbits N ≤ 8192 := by have := nbits_ln N; omega
    have hks : ((K : Int) == 0) = false := by rw [beq_eq_false_iff_ne]; omega
    obtain ⟨n1, hn1⟩ : ∃ n, n = ln N := ⟨_, rfl⟩
    have HLN := Hd.mk hn1
    rw [← hn1] at HV hl ⊢
    clear hn1
    go_enter Try.func30, Try.ntmps30
    go_wp2_with fail
    obtain ⟨W0, hW0⟩ : ∃ W : World, W = (w.alloc (.cells #[.bool false, .slice A1 n1 c1] 24)).alloc (.cells #[.bool false, .slice none 0 0] 24) := ⟨_, rfl⟩
    rw [← hW0]
    have HSZ : Hd (w.heap.size + 1 + 1 = W0.heap.size) := ⟨by rw [hW0]; simp⟩
    obtain ⟨hB0, hB1, hBW⟩ := boxes2 hW0
    have q0 := hB0.c0
    have q1 := hB0.c1
    have g0 := hB1.c0
    have g1 := hB1.c1
    have u0 := hB1.f0
    have u1 := hB1.f1
    have Q0 := Hd.mk hB0
    have QR := Hd.mk hB1
    have HW := Hd.mk hBW
    have HB : Hd (Below W0.heap.size W0 W0) := ⟨Below.refl _ _⟩
    clear hB0 hB1 hBW hW0
    refine (HV.out _ _ (bel_then HW.out (by repeat (first | exact HB.out | exact Below.refl _ _ | refine below_alloc ?_ _ | refine below_drewN ?_ _ | refine below_drew ?_ | refine below_set ?_ (by first | exact Nat.le_refl _ | omega | (simp; done) | (simp; omega)) _))) (blk_new HSZ.out _ _)).mono ?_
    rintro e w1 ⟨rfl, hb1⟩
    have HB' : Hd (Below W0.heap.size W0 _) := ⟨bel_then (by repeat (first | exact HB.out | exact Below.refl _ _ | refine below_alloc ?_ _ | refine below_drewN ?_ _ | refine below_drew ?_ | refine below_set ?_ (by first | exact Nat.le_refl _ | omega | (simp; done) | (simp; omega)) _)) hb1⟩; clear HB; have HB := HB'; clear HB' hb1; replace q0 := (Q0.out.to HB.out).c0; replace q1 := (Q0.out.to HB.out).c1; replace g0 := (QR.out.to HB.out).c0; replace g1 := (QR.out.to HB.out).c1; replace u0 := (QR.out.to HB.out).f0; replace u1 := (QR.out.to HB.out).f1
    go_wp2_with fail
    refine (of_calls _ _ _ _ _).mono ?_
    rintro e w2 ⟨rfl, hb1⟩
    have HB' : Hd (Below W0.heap.size W0 _) := ⟨bel_then (by repeat (first | exact HB.out | exact Below.refl _ _ | refine below_alloc ?_ _ | refine below_drewN ?_ _ | refine below_drew ?_ | refine below_set ?_ (by first | exact Nat.le_refl _ | omega | (simp; done) | (simp; omega)) _)) hb1⟩; clear HB; have HB := HB'; clear HB' hb1; replace q0 := (Q0.out.to HB.out).c0; replace q1 := (Q0.out.to HB.out).c1; replace g0 := (QR.out.to HB.out).c0; replace g1 := (QR.out.to HB.out).c1; replace u0 := (QR.out.to HB.out).f0; replace u1 := (QR.out.to HB.out).f1
    go_upto_region 5 with fail
    obtain rfl := HLN.out
    obtain ⟨W1, hW1⟩ : ∃ W : World, W = w2.alloc (.cells #[.bool false, .slice A1 (ln N) c1] 70) := ⟨_, rfl⟩
    rw [← hW1]
    have HZ6 : Hd (Blk W1 w2.heap.size 70 [.bool false, .slice A1 (ln N) c1]) := ⟨by rw [hW1]; exact heap_alloc_new _ _⟩
    have HB1 : Hd (Below W0.heap.size W0 W1) := ⟨by rw [hW1]; exact HB.out.alloc HB.out.size _⟩
    have HN6 : Hd (NN W1 A1 c1 N) := ⟨HN.out.to (bel_then HW.out HB1.out)⟩
    obtain ⟨g6, hg6⟩ : ∃ g, g = w2.heap.size := ⟨_, rfl⟩
    rw [← hg6] at HZ6 ⊢
    clear hW1 hg6 HB q0 q1 g0 g1 u0 u1
    have HB := HB1
    clear HB1
    obtain ⟨B0, hB0⟩ : ∃ b, b = nbits N / K := ⟨_, rfl⟩
    have hq : ((nbits N : Nat) : Int) / (K : Int) = (B0 : Int) := by rw [hB0]; exact (Int.natCast_ediv _ _).symm
    have hB0l : B0 ≤ 8192 := by rw [hB0]; exact Nat.le_trans (Nat.div_le_self _ _) hb0
    have HST : Hd (N < (0 + 2 ^ (B0 + 1)) ^ K) := ⟨by rw [hB0]; exact root_start hK0⟩
    have x0 := HZ6.out.c0
    have x1 := HZ6.out.c1
    clear hB0
    go_wp2_with fail
    refine (bits_calls A1 c1 N W1 HN6.out (by omega)).mono ?_
    rintro e w3 ⟨rfl, rfl⟩
    go_wp2_with fail
    clear hq
    go_loopw [7, 8] (fun s7 s8 wr => ∃ (b R : Nat) (A : Option Addr) (c : Nat), s8 = .int .i64 ((b : Int) - 1) ∧ b ≤ B0 + 1 ∧ s7 = .slice A (ln R) c ∧ NN wr A c R ∧ R ^ K ≤ N ∧ N < (R + 2 ^ b) ^ K ∧ Below W1.heap.size W1 wr) (fun _ s8 _ => (intOf s8 + 1).toNat)
    case atStart => exact ⟨B0 + 1, 0, none, 0, by congr 1; omega, Nat.le_refl _, by rw [ln_zero], NN.nil _ _ _ (by omega), by rw [Nat.zero_pow hK0]; omega, HST.out, Below.refl _ _⟩
    case round =>
      obtain ⟨b, R, A, c, rfl, hbb, rfl, hnR, hR1, hR2, hbel⟩ := hrel
      have HR := Hd.mk hnR
      have HR1 := Hd.mk hR1
      have HR2 := Hd.mk hR2
      have HBR := Hd.mk hbel
      have hRB : R < 2 ^ (B0 + 1) := by have := HST.out; rw [Nat.zero_add] at this; exact lt_root hR1 this
      have hlR : ln R ≤ 300 := ln_pow2 (Nat.le_of_lt hRB) (by omega)
      have HRB := Hd.mk hRB
      clear hnR hR1 hR2 hbel hRB x0 x1
      rcases b with _ | b
      · have hir : iroot N K = R := iroot_is hK0 HR1.out (by have := HR2.out; rwa [Nat.pow_zero] at this)
        have HIR := Hd.mk hir
        have HV2 := Hd.mk (value_calls (R : Int) A c wr (by rw [Int.natAbs_natCast]; exact HR.out) (by rw [Int.natAbs_natCast]; omega))
        rw [show decide ((R : Int) < 0) = false from decide_eq_false (by omega), Int.natAbs_natCast] at HV2
        clear hir
        go_wp2_with fail
        refine HV2.out.mono ?_
        rintro e w4 ⟨A4, c4, rfl, hn4, hb4⟩
        have HN4 := Hd.mk hn4
        have HB2 := Hd.mk (bel_then HB.out (bel_then HBR.out hb4))
        clear hn4 hb4 HB
        have HB := HB2
        clear HB2
        have g0 := (QR.out.to HB.out).c0
        have g1 := (QR.out.to HB.out).c1
        have u0 := (QR.out.to HB.out).f0
        have u1 := (QR.out.to HB.out).f1
        obtain ⟨z, hz⟩ : ∃ z : Int, z = (R : Int) := ⟨_, rfl⟩
        have HZZ : Hd (z = (iroot N K : Int)) := ⟨by rw [hz, HIR.out]⟩
        rw [← hz] at HN4 ⊢
        clear hz
        go_wp2_with fail
        obtain ⟨k0, k1, k2⟩ := two_set g0 g1 (.bool (decide (z < 0))) (.slice A4 (ln z.natAbs) c4)
        refine bodyPost_ret (v := .tuple #[.agg #[.bool (decide (z < 0)), .slice A4 (ln z.natAbs) c4], .int .i64 0]) (by simp [results, Try.results30, go_sem, k0, k1]) rfl ?_
        exact ⟨A4, c4, by rw [← HZZ.out], by rw [← HZZ.out]; exact (HN4.out.set_ g0 (by intro t; simp) _).set_ k2 (by intro t; simp) _, (by repeat (first | exact bel_then HW.out HB.out | refine below_set ?_ (by first | exact Nat.le_refl _ | omega | (simp; done) | (simp; omega)) _ | refine below_alloc ?_ _ | refine below_drewN ?_ _ | refine below_drew ?_))⟩
      · have e5 : ((b + 1 : Nat) : Int) - 1 = (b : Int) := by omega
        rw [e5]
        clear e5
        have hbl : b ≤ 8192 := by omega
        go_wp2_with fail
        refine (small_one _).mono ?_
        rintro e w3 ⟨v3, rfl, hb3, A3, c3, rfl, hn3⟩
        have HN3 := Hd.mk hn3
        have HB3 := Hd.mk hb3
        clear hn3 hb3
        go_wp2_with fail
        refine (shl_calls A3 c3 1 b _ HN3.out (by have := ln_word (d := 1) (by omega); omega) (by omega)).mono ?_
        rintro e w4 ⟨v4, rfl, hown, hb4⟩
        obtain ⟨A4, c4, rfl, hrn, hc4, hcm4⟩ := own_slice hown
        rw [Nat.one_mul] at hrn hc4 ⊢
        have HN4 : Hd (NN w4 A4 c4 (2 ^ b)) := ⟨⟨hrn, hc4, hcm4⟩⟩
        have HB4 := Hd.mk hb4
        have hl4 : ln (2 ^ b) ≤ 300 := ln_pow2 (Nat.le_refl _) (by omega)
        clear hown hrn hc4 hcm4 hb4
        go_wp2_with fail
        refine (add_calls A c R A4 c4 (2 ^ b) _ ((HR.out.to HB3.out).to HB4.out) HN4.out (by omega) (by omega)).mono ?_
        rintro e w5 ⟨A5, c5, rfl, hn5, hb5⟩
        have HN5 := Hd.mk hn5
        have HR5 : Hd (NN w5 A c R) := ⟨HR.out.to (bel_then HB3.out (bel_then HB4.out hb5))⟩
        have HB5 : Hd (Below W1.heap.size W1 w5) := ⟨bel_then HBR.out (bel_then HB3.out (bel_then HB4.out hb5))⟩
        clear hn5 hb5
        obtain ⟨T, hT⟩ : ∃ T, T = R + 2 ^ b := ⟨_, rfl⟩
        have hTB : T ≤ 2 ^ (B0 + 1 + 1) := by
          have h1 : 2 ^ b ≤ 2 ^ (B0 + 1) := Nat.pow_le_pow_right (by omega) (by omega)
          have h2 := two_half (B0 + 1)
          have := HRB.out
          omega
        have hlT : ln T ≤ 300 := ln_pow2 hTB (by omega)
        have HT2 : Hd (N < (T + 2 ^ b) ^ K) := ⟨by have := HR2.out; rw [hT, Nat.add_assoc, two_half]; exact this⟩
        have HT1 : Hd (T = R + 2 ^ b) := ⟨hT⟩
        rw [← hT] at HN5 ⊢
        clear hT hTB
        have HPW := Hd.mk (power_calls (T : Int) K (ln N + 1) A5 c5 w5 (by rw [Int.natAbs_natCast]; exact HN5.out) (by rw [Int.natAbs_natCast]; omega) (by omega) (by omega))
        rw [show decide ((T : Int) < 0) = false from decide_eq_false (by omega), Int.natAbs_natCast, show ((ln N + 1 : Nat) : Int) = (ln N : Int) + 1 from by omega] at HPW
        have x0 := (HZ6.out.to HB5.out).c0
        have x1 := (HZ6.out.to HB5.out).c1
        go_wp2_with fail
        refine HPW.out.mono ?_
        rintro e w6 ⟨z, ok, A6, c6, rfl, hn6, hb6, hok1, hok2, hlz⟩
        have HN6b := Hd.mk hn6
        have HB6 : Hd (Below W1.heap.size W1 w6) := ⟨bel_then HB5.out hb6⟩
        have HN5b := Hd.mk (HN5.out.to hb6)
        have HNN := Hd.mk (HN6.out.to HB6.out)
        have HR6 := Hd.mk (HR5.out.to hb6)
        have HZ7 := Hd.mk (HZ6.out.to HB6.out)
        clear hn6 hb6 x0 x1
        have HOK1 := Hd.mk hok1
        have HOK2 := Hd.mk hok2
        clear hok1 hok2
        rcases ok with _ | _
        · have hno : N < T ^ K := by
            have h1 := HOK2.out rfl
            rw [zpow_nat, Int.natAbs_natCast] at h1
            rcases Nat.lt_or_ge N (T ^ K) with h | h
            · exact h
            · have := ln_mono h; omega
          have HNO := Hd.mk hno
          clear hno
          go_wp2_with fail
          go_roundw
          case rel => exact ⟨b, R, A, c, rfl, by omega, rfl, HR6.out.to (below_alloc (Below.refl _ _) _), HR1.out, by rw [← HT1.out]; exact HNO.out, below_alloc HB6.out _⟩
          case measure => simp [intOf]
        · have hz := HOK1.out rfl
          rw [zpow_nat] at hz
          have HZE := Hd.mk hz
          have HC := Hd.mk (fun W (hW : Below w6.heap.size w6 W) => wcmp_calls z (N : Int) A6 c6 A1 c1 W (HN6b.out.to hW) (by rw [Int.natAbs_natCast]; exact HNN.out.to hW))
          rw [show decide ((N : Int) < 0) = false from decide_eq_false (by omega), Int.natAbs_natCast] at HC
          have x0 := HZ7.out.c0
          have x1 := HZ7.out.c1
          have hz7 : g6 < w6.heap.size := HZ7.out.lt
          clear hz
          go_wp2_with fail
          refine (HC.out _ (below_alloc (Below.refl _ _) _)).mono ?_
          rintro e w8 ⟨rfl, hb8⟩
          have HB8 : Hd (Below w6.heap.size w6 w8) := ⟨bel_then (below_alloc (Below.refl _ _) _) hb8⟩
          clear hb8 x0 x1
          by_cases hle : T ^ K ≤ N
          · have hs : sgnv (z - (N : Int)) ≤ 0 := by
              rw [HZE.out]
              unfold sgnv
              split
              · omega
              · split <;> omega
            have HLE := Hd.mk hle
            obtain ⟨sv, hsv⟩ : ∃ s, s = sgnv (z - (N : Int)) := ⟨_, rfl⟩
            rw [← hsv] at hs ⊢
            clear hle hsv
            go_wp2_with fail
            go_roundw
            case rel => exact ⟨b, T, A5, c5, rfl, by omega, rfl, HN5b.out.to HB8.out, HLE.out, HT2.out, bel_then HB6.out HB8.out⟩
            case measure => simp [intOf]
          · have hs : ¬ sgnv (z - (N : Int)) ≤ 0 := by
              rw [HZE.out]
              unfold sgnv
              rw [if_neg (by omega), if_neg (by omega)]
              omega
            have HLE : Hd (N < T ^ K) := ⟨by omega⟩
            obtain ⟨sv, hsv⟩ : ∃ s, s = sgnv (z - (N : Int)) := ⟨_, rfl⟩
            rw [← hsv] at hs ⊢
            clear hle hsv
            go_wp2_with fail
            go_roundw
            case rel => exact ⟨b, R, A, c, rfl, by omega, rfl, HR6.out.to HB8.out, HR1.out, by rw [← HT1.out]; exact HLE.out, bel_then HB6.out HB8.out⟩
            case measure => simp [intOf]
  · rw [if_neg hall, if_neg hall]
    unfold Raw.v
    obtain ⟨neg, A1, c1, xs⟩ := x
    by_cases hok : Raw.ok ⟨neg, A1, c1, xs⟩ = true
    · rw [hok] at HV
      simp only at HV hall ⊢
      obtain ⟨n1, hn1⟩ : ∃ n, n = xs.length := ⟨_, rfl⟩
      rw [← hn1] at HV ⊢
      clear hn1
      by_cases hng : neg = true
      · subst hng
        clear hall hok hx
        go_enter Try.func30, Try.ntmps30
        go_wp2_with fail
        obtain ⟨W0, hW0⟩ : ∃ W : World, W = (w.alloc (.cells #[.bool true, .slice A1 n1 c1] 24)).alloc (.cells #[.bool false, .slice none 0 0] 24) := ⟨_, rfl⟩
        rw [← hW0]
        have HSZ : Hd (w.heap.size + 1 + 1 = W0.heap.size) := ⟨by rw [hW0]; simp⟩
        obtain ⟨hB0, hB1, hBW⟩ := boxes2 hW0
        have q0 := hB0.c0
        have q1 := hB0.c1
        have g0 := hB1.c0
        have g1 := hB1.c1
        have u0 := hB1.f0
        have u1 := hB1.f1
        have Q0 := Hd.mk hB0
        have QR := Hd.mk hB1
        have HW := Hd.mk hBW
        have HB : Hd (Below W0.heap.size W0 W0) := ⟨Below.refl _ _⟩
        clear hB0 hB1 hBW hW0
        refine (HV.out _ _ (bel_then HW.out (by repeat (first | exact HB.out | exact Below.refl _ _ | refine below_alloc ?_ _ | refine below_drewN ?_ _ | refine below_drew ?_ | refine below_set ?_ (by first | exact Nat.le_refl _ | omega | (simp; done) | (simp; omega)) _))) (blk_new HSZ.out _ _)).mono ?_
        rintro e w1 ⟨rfl, hb1⟩
        have HB' : Hd (Below W0.heap.size W0 _) := ⟨bel_then (by repeat (first | exact HB.out | exact Below.refl _ _ | refine below_alloc ?_ _ | refine below_drewN ?_ _ | refine below_drew ?_ | refine below_set ?_ (by first | exact Nat.le_refl _ | omega | (simp; done) | (simp; omega)) _)) hb1⟩; clear HB; have HB := HB'; clear HB' hb1; replace q0 := (Q0.out.to HB.out).c0; replace q1 := (Q0.out.to HB.out).c1; replace g0 := (QR.out.to HB.out).c0; replace g1 := (QR.out.to HB.out).c1; replace u0 := (QR.out.to HB.out).f0; replace u1 := (QR.out.to HB.out).f1
        go_wp2_with fail
        obtain ⟨k0, k1, k2⟩ := two_set g0 g1 (.bool false) (.slice none 0 0)
        refine bodyPost_ret (v := .tuple #[.agg #[.bool false, .slice none 0 0], .int .i64 2]) (by simp [results, Try.results30, go_sem, k0, k1]) rfl ?_
        have nsz := HSZ.out
        exact ⟨none, 0, by rw [show ln (Int.natAbs 0) = 0 from ln_zero]; rfl, NN.nil _ _ _ (by omega), (by repeat (first | exact bel_then HW.out HB.out | refine below_set ?_ (by first | exact Nat.le_refl _ | omega | (simp; done) | (simp; omega)) _ | refine below_alloc ?_ _ | refine below_drewN ?_ _ | refine below_drew ?_))⟩
      · have hng : neg = false := by simpa using hng
        subst hng
        by_cases hk1 : k < 1
        · clear hall hok hx
          go_enter Try.func30, Try.ntmps30
          go_wp2_with fail
          obtain ⟨W0, hW0⟩ : ∃ W : World, W = (w.alloc (.cells #[.bool false, .slice A1 n1 c1] 24)).alloc (.cells #[.bool false, .slice none 0 0] 24) := ⟨_, rfl⟩
          rw [← hW0]
          have HSZ : Hd (w.heap.size + 1 + 1 = W0.heap.size) := ⟨by rw [hW0]; simp⟩
          obtain ⟨hB0, hB1, hBW⟩ := boxes2 hW0
          have q0 := hB0.c0
          have q1 := hB0.c1
          have g0 := hB1.c0
          have g1 := hB1.c1
          have u0 := hB1.f0
          have u1 := hB1.f1
          have Q0 := Hd.mk hB0
          have QR := Hd.mk hB1
          have HW := Hd.mk hBW
          have HB : Hd (Below W0.heap.size W0 W0) := ⟨Below.refl _ _⟩
          clear hB0 hB1 hBW hW0
          refine (HV.out _ _ (bel_then HW.out (by repeat (first | exact HB.out | exact Below.refl _ _ | refine below_alloc ?_ _ | refine below_drewN ?_ _ | refine below_drew ?_ | refine below_set ?_ (by first | exact Nat.le_refl _ | omega | (simp; done) | (simp; omega)) _))) (blk_new HSZ.out _ _)).mono ?_
          rintro e w1 ⟨rfl, hb1⟩
          have HB' : Hd (Below W0.heap.size W0 _) := ⟨bel_then (by repeat (first | exact HB.out | exact Below.refl _ _ | refine below_alloc ?_ _ | refine below_drewN ?_ _ | refine below_drew ?_ | refine below_set ?_ (by first | exact Nat.le_refl _ | omega | (simp; done) | (simp; omega)) _)) hb1⟩; clear HB; have HB := HB'; clear HB' hb1; replace q0 := (Q0.out.to HB.out).c0; replace q1 := (Q0.out.to HB.out).c1; replace g0 := (QR.out.to HB.out).c0; replace g1 := (QR.out.to HB.out).c1; replace u0 := (QR.out.to HB.out).f0; replace u1 := (QR.out.to HB.out).f1
          go_wp2_with fail
          obtain ⟨k0, k1, k2⟩ := two_set g0 g1 (.bool false) (.slice none 0 0)
          refine bodyPost_ret (v := .tuple #[.agg #[.bool false, .slice none 0 0], .int .i64 2]) (by simp [results, Try.results30, go_sem, k0, k1]) rfl ?_
          have nsz := HSZ.out
          exact ⟨none, 0, by rw [show ln (Int.natAbs 0) = 0 from ln_zero]; rfl, NN.nil _ _ _ (by omega), (by repeat (first | exact bel_then HW.out HB.out | refine below_set ?_ (by first | exact Nat.le_refl _ | omega | (simp; done) | (simp; omega)) _ | refine below_alloc ?_ _ | refine below_drewN ?_ _ | refine below_drew ?_))⟩
        · have hk2 : 64 < k := by
            rcases Int.lt_or_le 64 k with h | h
            · exact h
            · exact absurd ⟨hok, rfl, by omega, h⟩ hall
          clear hall hok hx
          go_enter Try.func30, Try.ntmps30
          go_wp2_with fail
          obtain ⟨W0, hW0⟩ : ∃ W : World, W = (w.alloc (.cells #[.bool false, .slice A1 n1 c1] 24)).alloc (.cells #[.bool false, .slice none 0 0] 24) := ⟨_, rfl⟩
          rw [← hW0]
          have HSZ : Hd (w.heap.size + 1 + 1 = W0.heap.size) := ⟨by rw [hW0]; simp⟩
          obtain ⟨hB0, hB1, hBW⟩ := boxes2 hW0
          have q0 := hB0.c0
          have q1 := hB0.c1
          have g0 := hB1.c0
          have g1 := hB1.c1
          have u0 := hB1.f0
          have u1 := hB1.f1
          have Q0 := Hd.mk hB0
          have QR := Hd.mk hB1
          have HW := Hd.mk hBW
          have HB : Hd (Below W0.heap.size W0 W0) := ⟨Below.refl _ _⟩
          clear hB0 hB1 hBW hW0
          refine (HV.out _ _ (bel_then HW.out (by repeat (first | exact HB.out | exact Below.refl _ _ | refine below_alloc ?_ _ | refine below_drewN ?_ _ | refine below_drew ?_ | refine below_set ?_ (by first | exact Nat.le_refl _ | omega | (simp; done) | (simp; omega)) _))) (blk_new HSZ.out _ _)).mono ?_
          rintro e w1 ⟨rfl, hb1⟩
          have HB' : Hd (Below W0.heap.size W0 _) := ⟨bel_then (by repeat (first | exact HB.out | exact Below.refl _ _ | refine below_alloc ?_ _ | refine below_drewN ?_ _ | refine below_drew ?_ | refine below_set ?_ (by first | exact Nat.le_refl _ | omega | (simp; done) | (simp; omega)) _)) hb1⟩; clear HB; have HB := HB'; clear HB' hb1; replace q0 := (Q0.out.to HB.out).c0; replace q1 := (Q0.out.to HB.out).c1; replace g0 := (QR.out.to HB.out).c0; replace g1 := (QR.out.to HB.out).c1; replace u0 := (QR.out.to HB.out).f0; replace u1 := (QR.out.to HB.out).f1
          go_wp2_with fail
          obtain ⟨k0, k1, k2⟩ := two_set g0 g1 (.bool false) (.slice none 0 0)
          refine bodyPost_ret (v := .tuple #[.agg #[.bool false, .slice none 0 0], .int .i64 2]) (by simp [results, Try.results30, go_sem, k0, k1]) rfl ?_
          have nsz := HSZ.out
          exact ⟨none, 0, by rw [show ln (Int.natAbs 0) = 0 from ln_zero]; rfl, NN.nil _ _ _ (by omega), (by repeat (first | exact bel_then HW.out HB.out | refine below_set ?_ (by first | exact Nat.le_refl _ | omega | (simp; done) | (simp; omega)) _ | refine below_alloc ?_ _ | refine below_drewN ?_ _ | refine below_drew ?_))⟩
    · have hno : Raw.ok ⟨neg, A1, c1, xs⟩ = false := by simpa using hok
      rw [hno] at HV
      simp only at HV ⊢
      obtain ⟨n1, hn1⟩ : ∃ n, n = xs.length := ⟨_, rfl⟩
      rw [← hn1] at HV ⊢
      clear hn1 hall hok hno hx
      go_enter Try.func30, Try.ntmps30
      go_wp2_with fail
      obtain ⟨W0, hW0⟩ : ∃ W : World, W = (w.alloc (.cells #[.bool neg, .slice A1 n1 c1] 24)).alloc (.cells #[.bool false, .slice none 0 0] 24) := ⟨_, rfl⟩
      rw [← hW0]
      have HSZ : Hd (w.heap.size + 1 + 1 = W0.heap.size) := ⟨by rw [hW0]; simp⟩
      obtain ⟨hB0, hB1, hBW⟩ := boxes2 hW0
      have q0 := hB0.c0
      have q1 := hB0.c1
      have g0 := hB1.c0
      have g1 := hB1.c1
      have u0 := hB1.f0
      have u1 := hB1.f1
      have Q0 := Hd.mk hB0
      have QR := Hd.mk hB1
      have HW := Hd.mk hBW
      have HB : Hd (Below W0.heap.size W0 W0) := ⟨Below.refl _ _⟩
      clear hB0 hB1 hBW hW0
      refine (HV.out _ _ (bel_then HW.out (by repeat (first | exact HB.out | exact Below.refl _ _ | refine below_alloc ?_ _ | refine below_drewN ?_ _ | refine below_drew ?_ | refine below_set ?_ (by first | exact Nat.le_refl _ | omega | (simp; done) | (simp; omega)) _))) (blk_new HSZ.out _ _)).mono ?_
      rintro e w1 ⟨rfl, hb1⟩
      have HB' : Hd (Below W0.heap.size W0 _) := ⟨bel_then (by repeat (first | exact HB.out | exact Below.refl _ _ | refine below_alloc ?_ _ | refine below_drewN ?_ _ | refine below_drew ?_ | refine below_set ?_ (by first | exact Nat.le_refl _ | omega | (simp; done) | (simp; omega)) _)) hb1⟩; clear HB; have HB := HB'; clear HB' hb1; replace q0 := (Q0.out.to HB.out).c0; replace q1 := (Q0.out.to HB.out).c1; replace g0 := (QR.out.to HB.out).c0; replace g1 := (QR.out.to HB.out).c1; replace u0 := (QR.out.to HB.out).f0; replace u1 := (QR.out.to HB.out).f1
      go_wp2_with fail
      obtain ⟨k0, k1, k2⟩ := two_set g0 g1 (.bool false) (.slice none 0 0)
      refine bodyPost_ret (v := .tuple #[.agg #[.bool false, .slice none 0 0], .int .i64 2]) (by simp [results, Try.results30, go_sem, k0, k1]) rfl ?_
      have nsz := HSZ.out
      exact ⟨none, 0, by rw [show ln (Int.natAbs 0) = 0 from ln_zero]; rfl, NN.nil _ _ _ (by omega), (by repeat (first | exact bel_then HW.out HB.out | refine below_set ?_ (by first | exact Nat.le_refl _ | omega | (simp; done) | (simp; omega)) _ | refine below_alloc ?_ _ | refine below_drewN ?_ _ | refine below_drew ?_))⟩
end Go.Proofs.Ytcjcpfafalkceaa
