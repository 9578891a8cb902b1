/- Roots: the reference's power and Root. -/
import Derived.Test.YtcjcpfafalkceaaPD
import Derived.Test.YtcjcpfafalkceaaZE
set_option linter.unusedVariables false
set_option linter.unusedSimpArgs false
namespace Go.Proofs.Ytcjcpfafalkceaa
open Go.RowKit
theorem nbits_mono {m n : Nat} (h : m ≤ n) : nbits m ≤ nbits n := nbits_le.2 (Nat.lt_of_le_of_lt h (nbits_hi n))
theorem ln_nbits {p M : Nat} (h : nbits p ≤ nbits M ∨ p = 1) : ln p ≤ ln M + 1 := by
  rcases h with h | h
  · have h1 := nbits_ln M
    have h2 := nbits_le.1 (Nat.le_trans h h1)
    have : ln p ≤ ln M := ln_le (by rwa [show B = 2 ^ 32 from rfl, ← Nat.pow_mul])
    omega
  · subst h
    have := ln_word (d := 1) (by omega)
    omega
/-- What the reference's power leaves: a number that is at most M where the power is. -/
def RetPw (a k M : Nat) (w : World) (e : Ending) (w' : World) : Prop := ∃ (p : Nat) (A : Option Addr) (c : Nat), e = .returned (.slice A (ln p) c) ∧ NN w' A c p ∧ Below w.heap.size w w' ∧ (p ≤ M ↔ a ^ k ≤ M)
set_option maxHeartbeats 1000000 in
set_option maxRecDepth 100000 in
theorem rpower_calls (A1 : Option Addr) (c1 a k M : Nat) (w : World) (h1 : NN w A1 c1 a) (ha : 0 < a) (l1 : ln a ≤ 1000) (l2 : ln M ≤ 1000) (hk : k ≤ 1000) :
    Calls Try.prog 88 #[.slice A1 (ln a) c1, .int .i64 (k : Int), .int .i64 (nbits M : Int)] w (RetPw a k M w) := by
  have H1 := Hd.mk h1
  have hnb : nbits M ≤ 32000 := by have := nbits_ln M; omega
  have HA := Hd.mk ha
  clear h1 ha
  go_enter Try.func88, Try.ntmps88
  go_wp2_with fail
  go_loopw [7, 10] (fun s7 s10 wr => ∃ (i : Nat) (A : Option Addr) (c : Nat), s10 = .int .i64 (i : Int) ∧ s7 = .slice A (ln (a ^ i)) c ∧ NN wr A c (a ^ i) ∧ (nbits (a ^ i) ≤ nbits M ∨ a ^ i = 1) ∧ i ≤ k ∧ Below w.heap.size w wr) (fun _ s10 _ => k - (intOf s10).toNat)
  case atStart => exact ⟨0, some ⟨w.heap.size, 0, none⟩, 1, rfl, by rw [Nat.pow_zero, ln_one_], by rw [Nat.pow_zero]; exact nn_one w _, .inr (Nat.pow_zero _), Nat.zero_le _, below_alloc (Below.refl _ _) _⟩
  case round =>
    obtain ⟨i, A, c, rfl, rfl, hn, hb, hik, hbel⟩ := hrel
    have HN := Hd.mk hn
    have HB := Hd.mk hbel
    have hlp := ln_nbits hb
    clear hn hb hbel
    obtain ⟨p, hp⟩ : ∃ p, p = a ^ i := ⟨_, rfl⟩
    have HP := Hd.mk hp
    rw [← hp] at HN hlp ⊢
    clear hp
    by_cases hlt : i < k
    · have hlt' : (i : Int) < (k : Int) := by omega
      have HT := Hd.mk (rtimes_calls A c p A1 c1 a wr HN.out (H1.out.to HB.out) (by omega) (by omega))
      have hl2 : ln (p * a) ≤ 3000 := Nat.le_trans (ln_mul _ _) (by omega)
      obtain ⟨p2, hp2⟩ : ∃ p2, p2 = p * a := ⟨_, rfl⟩
      have HP2 : Hd (p2 = a ^ (i + 1)) := ⟨by rw [hp2, HP.out, Nat.pow_succ]⟩
      rw [← hp2] at HT hl2
      have hnb2 : nbits p2 ≤ 96000 := by have := nbits_ln p2; omega
      clear hp2
      go_wp2_with fail
      refine HT.out.mono ?_
      rintro e w1 ⟨A3, c3, rfl, hn3, hb3⟩
      have HN3 := Hd.mk hn3
      have HB3 : Hd (Below w.heap.size w w1) := ⟨bel_then HB.out hb3⟩
      clear hn3 hb3
      go_wp2_with fail
      refine (rbits_calls A3 c3 p2 w1 HN3.out (by omega)).mono ?_
      rintro e w2 ⟨rfl, rfl⟩
      by_cases hbig : nbits M < nbits p2
      · have hbig' : decide (nbits M < nbits p2) = true := decide_eq_true hbig
        have h1 : ¬ p2 ≤ M := fun h => by have := nbits_mono h; omega
        have h2 : ¬ a ^ k ≤ M := fun h => h1 (by
          rw [HP2.out]
          exact Nat.le_trans (Nat.pow_le_pow_right HA.out (by omega)) h)
        have HI : Hd (p2 ≤ M ↔ a ^ k ≤ M) := ⟨⟨fun h => absurd h h1, fun h => absurd h h2⟩⟩
        clear hbig h1 h2
        go_wp2_with fail
        go_ret
        exact ⟨p2, A3, c3, rfl, HN3.out, HB3.out, HI.out⟩
      · have hbig' : decide (nbits M < nbits p2) = false := decide_eq_false hbig
        have HS : Hd (nbits p2 ≤ nbits M) := ⟨by omega⟩
        clear hbig
        go_wp2_with fail
        go_roundw
        case rel => exact ⟨i + 1, A3, c3, by go_num, by rw [← HP2.out], by rw [← HP2.out]; exact HN3.out, by rw [← HP2.out]; exact .inl HS.out, by omega, HB3.out⟩
        case measure => simp [intOf]; omega
    · have hie : i = k := by omega
      subst hie
      go_wp2_with fail
      go_ret
      exact ⟨p, A, c, rfl, HN.out, HB.out, by rw [HP.out]⟩
theorem rep_set (q x : Nat) : (List.replicate (q + 1) 0).set q x = List.replicate q 0 ++ [x] := by
  have := set_next (List.replicate q 0) 1 x (by omega)
  simp only [List.length_replicate, Nat.sub_self, List.replicate_zero, List.append_nil] at this
  rw [← this, List.replicate_append_replicate]
theorem dig_two (q r : Nat) (hr : r < 32) : dig (2 ^ (32 * q + r)) = List.replicate q 0 ++ [2 ^ r] := by
  have h1 : 2 ^ r < 2 ^ 32 := Nat.pow_lt_pow_right (by omega) hr
  have h1 : 2 ^ r < B := h1
  have h0 : 0 < 2 ^ r := Nat.pow_pos (by omega)
  have h2 : 2 ^ (32 * q + r) = 2 ^ r * B ^ q := by rw [Nat.pow_add, Nat.pow_mul, Nat.mul_comm]; rfl
  rw [h2, dig_shift (by omega), dig_pos (by omega), Nat.mod_eq_of_lt h1, Nat.div_eq_of_lt h1, dig_zero]
theorem ln_two_pow (q r : Nat) (hr : r < 32) : ln (2 ^ (32 * q + r)) = q + 1 := by unfold ln; rw [dig_two q r hr]; simp
attribute [local go_sem] run_fld_Z
set_option maxHeartbeats 2000000 in
set_option maxRecDepth 100000 in
theorem rRoot_calls (x : Raw) (k : Int) (w : World) (hx : x.at_ w) :
    Calls Try.prog 37 #[x.v, .int .i64 k] w (RetZE (rootz x k) (roote x k) w) := by
  have HV := Hd.mk (fun W (hW : Below w.heap.size w W) => rvalid_calls x W (Raw.at_to hx hW))
  unfold rootz roote
  by_cases hall : x.ok = true ∧ x.neg = false ∧ 1 ≤ k ∧ k ≤ 64
  · rw [if_pos hall, if_pos hall]
    obtain ⟨hok, hng, hk1, hk2⟩ := hall
    rw [hok] at HV
    have hl := Raw.ok_len hok hx.2.1
    have hN := Raw.nn hok hx
    have hln := (Raw.num hok hx.2.1).2
    obtain ⟨K, hK⟩ : ∃ K : Nat, k = (K : Int) := ⟨k.toNat, by omega⟩
    subst hK
    rw [Int.toNat_natCast]
    have hK0 : 0 < K := by omega
    obtain ⟨N, hNN⟩ : ∃ N, N = x.val.natAbs := ⟨_, rfl⟩
    rw [← hNN] at hl hN hln ⊢
    have HN := Hd.mk hN
    unfold Raw.v at HV ⊢
    obtain ⟨neg, A1, c1, xs⟩ := x
    simp only at HV hng HN hln ⊢
    subst hng
    rw [← hln] at HV ⊢
    clear hx hok hNN hN hln
    have hb0 : nbits N ≤ 8192 := by have := nbits_ln N; omega
    have hks : ((K : Int) == 0) = false := by rw [beq_eq_false_iff_ne]; omega
    obtain ⟨n1, hn1⟩ : ∃ n, n = ln N := ⟨_, rfl⟩
    have HLN := Hd.mk hn1
    rw [← hn1] at HV hl ⊢
    clear hn1
    go_enter Try.func37, Try.ntmps37
    go_wp2_with fail
    obtain ⟨W0, hW0⟩ : ∃ W : World, W = (w.alloc (.cells #[.bool false, .slice A1 n1 c1] 24)).alloc (.cells #[.bool false, .slice none 0 0] 24) := ⟨_, rfl⟩
    rw [← hW0]
    have HSZ : Hd (w.heap.size + 1 + 1 = W0.heap.size) := ⟨by rw [hW0]; simp⟩
    obtain ⟨hB0, hB1, hBW⟩ := boxes2 hW0
    have q0 := hB0.c0
    have q1 := hB0.c1
    have g0 := hB1.c0
    have g1 := hB1.c1
    have u0 := hB1.f0
    have u1 := hB1.f1
    have Q0 := Hd.mk hB0
    have QR := Hd.mk hB1
    have HW := Hd.mk hBW
    have HB : Hd (Below W0.heap.size W0 W0) := ⟨Below.refl _ _⟩
    clear hB0 hB1 hBW hW0
    refine (HV.out _ (bel_then HW.out (by repeat (first | exact HB.out | exact Below.refl _ _ | refine below_alloc ?_ _ | refine below_drewN ?_ _ | refine below_drew ?_ | refine below_set ?_ (by first | exact Nat.le_refl _ | omega | (simp; done) | (simp; omega)) _)))).mono ?_
    rintro e w1 ⟨rfl, hb1⟩
    have HB' : Hd (Below W0.heap.size W0 _) := ⟨bel_then (by repeat (first | exact HB.out | exact Below.refl _ _ | refine below_alloc ?_ _ | refine below_drewN ?_ _ | refine below_drew ?_ | refine below_set ?_ (by first | exact Nat.le_refl _ | omega | (simp; done) | (simp; omega)) _)) hb1⟩; clear HB; have HB := HB'; clear HB' hb1; replace q0 := (Q0.out.to HB.out).c0; replace q1 := (Q0.out.to HB.out).c1; replace g0 := (QR.out.to HB.out).c0; replace g1 := (QR.out.to HB.out).c1; replace u0 := (QR.out.to HB.out).f0; replace u1 := (QR.out.to HB.out).f1
    go_wp2_with fail
    refine (rOf_calls _ _ _ _ _).mono ?_
    rintro e w2 ⟨rfl, hb1⟩
    have HB' : Hd (Below W0.heap.size W0 _) := ⟨bel_then (by repeat (first | exact HB.out | exact Below.refl _ _ | refine below_alloc ?_ _ | refine below_drewN ?_ _ | refine below_drew ?_ | refine below_set ?_ (by first | exact Nat.le_refl _ | omega | (simp; done) | (simp; omega)) _)) hb1⟩; clear HB; have HB := HB'; clear HB' hb1; replace q0 := (Q0.out.to HB.out).c0; replace q1 := (Q0.out.to HB.out).c1; replace g0 := (QR.out.to HB.out).c0; replace g1 := (QR.out.to HB.out).c1; replace u0 := (QR.out.to HB.out).f0; replace u1 := (QR.out.to HB.out).f1
    obtain rfl := HLN.out
    have HN2 : Hd (NN w2 A1 c1 N) := ⟨HN.out.to (bel_then HW.out HB.out)⟩
    obtain ⟨B0, hB0⟩ : ∃ b, b = nbits N / K := ⟨_, rfl⟩
    have hq : ((nbits N : Nat) : Int) / (K : Int) = (B0 : Int) := by rw [hB0]; exact (Int.natCast_ediv _ _).symm
    have hB0l : B0 ≤ 8192 := by rw [hB0]; exact Nat.le_trans (Nat.div_le_self _ _) hb0
    have HST : Hd (N < (0 + 2 ^ (B0 + 1)) ^ K) := ⟨by rw [hB0]; exact root_start hK0⟩
    clear hB0
    go_wp2_with fail
    refine (rbits_calls A1 c1 N w2 HN2.out (by omega)).mono ?_
    rintro e w3 ⟨rfl, rfl⟩
    go_wp2_with fail
    clear hq q0 q1 g0 g1 u0 u1
    go_loopw [7, 8] (fun s7 s8 wr => ∃ (b R : Nat) (A : Option Addr) (c : Nat), s8 = .int .i64 ((b : Int) - 1) ∧ b ≤ B0 + 1 ∧ s7 = .slice A (ln R) c ∧ NN wr A c R ∧ R ^ K ≤ N ∧ N < (R + 2 ^ b) ^ K ∧ Below w2.heap.size w2 wr) (fun _ s8 _ => (intOf s8 + 1).toNat)
    case atStart => exact ⟨B0 + 1, 0, none, 0, by congr 1; omega, Nat.le_refl _, by rw [ln_zero], NN.nil _ _ _ (by omega), by rw [Nat.zero_pow hK0]; omega, HST.out, Below.refl _ _⟩
    case round =>
      obtain ⟨b, R, A, c, rfl, hbb, rfl, hnR, hR1, hR2, hbel⟩ := hrel
      have HR := Hd.mk hnR
      have HR1 := Hd.mk hR1
      have HR2 := Hd.mk hR2
      have HBR := Hd.mk hbel
      have hRB : R < 2 ^ (B0 + 1) := by have := HST.out; rw [Nat.zero_add] at this; exact lt_root hR1 this
      have hlR : ln R ≤ 300 := ln_pow2 (Nat.le_of_lt hRB) (by omega)
      have HRB := Hd.mk hRB
      clear hnR hR1 hR2 hbel hRB
      rcases b with _ | b
      · have hir : iroot N K = R := iroot_is hK0 HR1.out (by have := HR2.out; rwa [Nat.pow_zero] at this)
        have HIR := Hd.mk hir
        clear hir
        go_wp2_with fail
        refine (signed_calls false false A (ln R) c wr (by omega) rfl).mono ?_
        rintro e w4 ⟨rfl, hb4⟩
        have HR4 := Hd.mk (HR.out.to hb4)
        have HB4 : Hd (Below w2.heap.size w2 w4) := ⟨bel_then HBR.out hb4⟩
        clear hb4
        go_wp2_with fail
        refine (rInt_calls _ _ _ _ _).mono ?_
        rintro e w5 ⟨rfl, hb5⟩
        have HR5 := Hd.mk (HR4.out.to hb5)
        have HB2 := Hd.mk (bel_then HB.out (bel_then HB4.out hb5))
        clear hb5 HB
        have HB := HB2
        clear HB2
        have g0 := (QR.out.to HB.out).c0
        have g1 := (QR.out.to HB.out).c1
        have u0 := (QR.out.to HB.out).f0
        have u1 := (QR.out.to HB.out).f1
        go_wp2_with fail
        obtain ⟨k0, k1, k2⟩ := two_set g0 g1 (.bool false) (.slice A (ln R) c)
        refine bodyPost_ret (v := .tuple #[.agg #[.bool false, .slice A (ln R) c], .int .i64 0]) (by simp [results, Try.results37, go_sem, k0, k1]) rfl ?_
        exact ⟨A, c, by rw [HIR.out, Int.natAbs_natCast, show decide ((R : Int) < 0) = false from decide_eq_false (by omega)], by rw [HIR.out, Int.natAbs_natCast]; exact (HR5.out.set_ g0 (by intro t; simp) _).set_ k2 (by intro t; simp) _, (by repeat (first | exact bel_then HW.out HB.out | refine below_set ?_ (by first | exact Nat.le_refl _ | omega | (simp; done) | (simp; omega)) _ | refine below_alloc ?_ _ | refine below_drewN ?_ _ | refine below_drew ?_))⟩
      · have e5 : ((b + 1 : Nat) : Int) - 1 = (b : Int) := by omega
        rw [e5]
        clear e5
        have hbl : b ≤ 8192 := by omega
        obtain ⟨q, hq⟩ : ∃ q, q = b / 32 := ⟨_, rfl⟩
        obtain ⟨r, hr⟩ : ∃ r, r = b % 32 := ⟨_, rfl⟩
        have hqI : (b : Int) / 32 = (q : Int) := by omega
        have hrI : (b : Int) % 32 = (r : Int) := by omega
        have hr32 : r < 32 := by omega
        have hbqr : b = 32 * q + r := by omega
        have hql : q ≤ 256 := by omega
        have HBQ := Hd.mk hbqr
        have hdt := dig_two q r hr32
        have hlt := ln_two_pow q r hr32
        rw [← hbqr] at hdt hlt
        obtain ⟨t, ht⟩ : ∃ t, t = 2 ^ r := ⟨_, rfl⟩
        have htl : t < 4294967296 := by
          have : 2 ^ r < 2 ^ 32 := Nat.pow_lt_pow_right (by omega) hr32
          rw [ht]
          exact this
        have htI : (2 : Int) ^ r = (t : Int) := by rw [ht]; simp
        rw [← ht] at hdt
        have HDT := Hd.mk hdt
        have HLT := Hd.mk hlt
        have hmk := fun W => make_words 36 Try.underlying36 ((q : Int) + 1) (q + 1) (by omega) (by omega) W
        have hfr := fun W : World => (show Blk (W.alloc (.cells (cells (List.replicate (q + 1) 0)).toArray 72)) W.heap.size 72 (cells (List.replicate (q + 1) 0)) from heap_alloc_new _ _)
        clear hq hr hbqr hdt hlt ht
        have HFR := Hd.mk hfr
        clear hfr
        go_upto_region 9 with fail
        clear hmk
        obtain ⟨WM, hWM⟩ : ∃ W, W = wr.alloc (.cells (cells (List.replicate (q + 1) 0)).toArray 72) := ⟨_, rfl⟩
        have HKM : Hd (Blk WM wr.heap.size 72 (cells (List.replicate (q + 1) 0))) := ⟨by rw [hWM]; exact HFR.out wr⟩
        have HBM : Hd (Below wr.heap.size wr WM) := ⟨by rw [hWM]; exact below_alloc (Below.refl _ _) _⟩
        rw [← hWM]
        clear hWM HFR
        have hck := HKM.out.at_ (i := q) (by simp)
        rw [getD_zeros] at hck
        have hfz := HKM.out.frozen q
        have HPT : Hd (Blk (WM.setCell ⟨wr.heap.size, q, none⟩ (.int .u32 ((t : Nat) : Int))) wr.heap.size 72 (cells (dig (2 ^ b)))) := ⟨by
          have := HKM.out.put q t
          rw [rep_set] at this
          rw [HDT.out]
          exact this⟩
        go_upto_region 10 with fail
        obtain ⟨WN, hWN⟩ : ∃ W, W = WM.setCell ⟨wr.heap.size, q, none⟩ (.int .u32 ((t : Nat) : Int)) := ⟨_, rfl⟩
        rw [← hWN] at HPT ⊢
        have HBN : Hd (Below wr.heap.size wr WN) := ⟨by rw [hWN]; exact below_set HBM.out (Nat.le_refl _) _⟩
        have hnt : NN WN (some ⟨wr.heap.size, 0, none⟩) (q + 1) (2 ^ b) := ⟨HPT.out.reads, by rw [HLT.out]; exact Nat.le_refl _, by omega⟩
        have HP := Hd.mk (rplus_calls A c R (some ⟨wr.heap.size, 0, none⟩) (q + 1) (2 ^ b) WN (HR.out.to HBN.out) hnt (by omega) (by rw [HLT.out]; omega))
        rw [HLT.out] at HP
        have HRN := Hd.mk (HR.out.to HBN.out)
        clear hWN hnt hck hfz HPT HKM HBM
        go_wp2_with fail
        refine HP.out.mono ?_
        rintro e w5 ⟨A5, c5, rfl, hn5, hb5⟩
        have HN5 := Hd.mk hn5
        have HB5 : Hd (Below w2.heap.size w2 w5) := ⟨bel_then HBR.out (bel_then HBN.out hb5)⟩
        have HR5 := Hd.mk (HRN.out.to hb5)
        have HNN := Hd.mk (HN2.out.to HB5.out)
        clear hn5 hb5 HRN HBN
        obtain ⟨T, hT⟩ : ∃ T, T = R + 2 ^ b := ⟨_, rfl⟩
        have hTB : T ≤ 2 ^ (B0 + 1 + 1) := by
          have h1 : 2 ^ b ≤ 2 ^ (B0 + 1) := Nat.pow_le_pow_right (by omega) (by omega)
          have h2 := two_half (B0 + 1)
          have := HRB.out
          omega
        have hT0 : 0 < T := by have : 0 < 2 ^ b := Nat.pow_pos (by omega); omega
        have hlT : ln T ≤ 300 := ln_pow2 hTB (by omega)
        have HT2 : Hd (N < (T + 2 ^ b) ^ K) := ⟨by have := HR2.out; rw [hT, Nat.add_assoc, two_half]; exact this⟩
        have HT1 : Hd (T = R + 2 ^ b) := ⟨hT⟩
        rw [← hT] at HN5 ⊢
        clear hT hTB hqI hrI htI
        go_wp2_with fail
        refine (rbits_calls A1 c1 N w5 HNN.out (by omega)).mono ?_
        rintro e w6 ⟨rfl, rfl⟩
        have HPW := Hd.mk (rpower_calls A5 c5 T K N w5 HN5.out hT0 (by omega) (by omega) (by omega))
        go_wp2_with fail
        refine HPW.out.mono ?_
        rintro e w7 ⟨p, A7, c7, rfl, hn7, hb7, hiff⟩
        have HIF := Hd.mk hiff
        have HN7 := Hd.mk hn7
        have HB7 : Hd (Below w2.heap.size w2 w7) := ⟨bel_then HB5.out hb7⟩
        have HR7 := Hd.mk (HR5.out.to hb7)
        have HT7 := Hd.mk (HN5.out.to hb7)
        have HN7N := Hd.mk (HNN.out.to hb7)
        clear hn7 hb7 hiff hT0
        go_wp2_with fail
        refine (order_calls A7 c7 p A1 c1 N w7 HN7.out HN7N.out).mono ?_
        rintro e w8 ⟨rfl, q8, rfl⟩
        by_cases hle : p ≤ N
        · have hcl := cmpv_le hle
          have HLE : Hd (T ^ K ≤ N) := ⟨HIF.out.1 hle⟩
          obtain ⟨cv, hcv⟩ : ∃ cv, cv = cmpv p N := ⟨_, rfl⟩
          rw [← hcv] at hcl ⊢
          clear hcv hle
          go_wp2_with fail
          go_roundw
          case rel => exact ⟨b, T, A5, c5, rfl, by omega, rfl, HT7.out.to (below_drewN (Below.refl _ _) _), HLE.out, HT2.out, below_drewN HB7.out _⟩
          case measure => simp [intOf]
        · rw [cmpv_gt (by omega)]
          have HLE : Hd (N < T ^ K) := ⟨by
            rcases Nat.lt_or_ge N (T ^ K) with h | h
            · exact h
            · exact absurd (HIF.out.2 h) hle⟩
          clear hle
          go_wp2_with fail
          go_roundw
          case rel => exact ⟨b, R, A, c, rfl, by omega, rfl, HR7.out.to (below_drewN (Below.refl _ _) _), HR1.out, by rw [← HT1.out]; exact HLE.out, below_drewN HB7.out _⟩
          case measure => simp [intOf]
  · rw [if_neg hall, if_neg hall]
    unfold Raw.v at HV ⊢
    obtain ⟨neg, A1, c1, xs⟩ := x
    by_cases hok : Raw.ok ⟨neg, A1, c1, xs⟩ = true
    · rw [hok] at HV
      simp only at HV hall ⊢
      obtain ⟨n1, hn1⟩ : ∃ n, n = xs.length := ⟨_, rfl⟩
      rw [← hn1] at HV ⊢
      clear hn1
      by_cases hng : neg = true
      · subst hng
        clear hall hok hx
        go_enter Try.func37, Try.ntmps37
        go_wp2_with fail
        obtain ⟨W0, hW0⟩ : ∃ W : World, W = (w.alloc (.cells #[.bool true, .slice A1 n1 c1] 24)).alloc (.cells #[.bool false, .slice none 0 0] 24) := ⟨_, rfl⟩
        rw [← hW0]
        have HSZ : Hd (w.heap.size + 1 + 1 = W0.heap.size) := ⟨by rw [hW0]; simp⟩
        obtain ⟨hB0, hB1, hBW⟩ := boxes2 hW0
        have q0 := hB0.c0
        have q1 := hB0.c1
        have g0 := hB1.c0
        have g1 := hB1.c1
        have u0 := hB1.f0
        have u1 := hB1.f1
        have Q0 := Hd.mk hB0
        have QR := Hd.mk hB1
        have HW := Hd.mk hBW
        have HB : Hd (Below W0.heap.size W0 W0) := ⟨Below.refl _ _⟩
        clear hB0 hB1 hBW hW0
        refine (HV.out _ (bel_then HW.out (by repeat (first | exact HB.out | exact Below.refl _ _ | refine below_alloc ?_ _ | refine below_drewN ?_ _ | refine below_drew ?_ | refine below_set ?_ (by first | exact Nat.le_refl _ | omega | (simp; done) | (simp; omega)) _)))).mono ?_
        rintro e w1 ⟨rfl, hb1⟩
        have HB' : Hd (Below W0.heap.size W0 _) := ⟨bel_then (by repeat (first | exact HB.out | exact Below.refl _ _ | refine below_alloc ?_ _ | refine below_drewN ?_ _ | refine below_drew ?_ | refine below_set ?_ (by first | exact Nat.le_refl _ | omega | (simp; done) | (simp; omega)) _)) hb1⟩; clear HB; have HB := HB'; clear HB' hb1; replace q0 := (Q0.out.to HB.out).c0; replace q1 := (Q0.out.to HB.out).c1; replace g0 := (QR.out.to HB.out).c0; replace g1 := (QR.out.to HB.out).c1; replace u0 := (QR.out.to HB.out).f0; replace u1 := (QR.out.to HB.out).f1
        go_wp2_with fail
        obtain ⟨k0, k1, k2⟩ := two_set g0 g1 (.bool false) (.slice none 0 0)
        refine bodyPost_ret (v := .tuple #[.agg #[.bool false, .slice none 0 0], .int .i64 2]) (by simp [results, Try.results37, go_sem, k0, k1]) rfl ?_
        have nsz := HSZ.out
        exact ⟨none, 0, by rw [show ln (Int.natAbs 0) = 0 from ln_zero]; rfl, NN.nil _ _ _ (by omega), (by repeat (first | exact bel_then HW.out HB.out | refine below_set ?_ (by first | exact Nat.le_refl _ | omega | (simp; done) | (simp; omega)) _ | refine below_alloc ?_ _ | refine below_drewN ?_ _ | refine below_drew ?_))⟩
      · have hng : neg = false := by simpa using hng
        subst hng
        by_cases hk1 : k < 1
        · clear hall hok hx
          go_enter Try.func37, Try.ntmps37
          go_wp2_with fail
          obtain ⟨W0, hW0⟩ : ∃ W : World, W = (w.alloc (.cells #[.bool false, .slice A1 n1 c1] 24)).alloc (.cells #[.bool false, .slice none 0 0] 24) := ⟨_, rfl⟩
          rw [← hW0]
          have HSZ : Hd (w.heap.size + 1 + 1 = W0.heap.size) := ⟨by rw [hW0]; simp⟩
          obtain ⟨hB0, hB1, hBW⟩ := boxes2 hW0
          have q0 := hB0.c0
          have q1 := hB0.c1
          have g0 := hB1.c0
          have g1 := hB1.c1
          have u0 := hB1.f0
          have u1 := hB1.f1
          have Q0 := Hd.mk hB0
          have QR := Hd.mk hB1
          have HW := Hd.mk hBW
          have HB : Hd (Below W0.heap.size W0 W0) := ⟨Below.refl _ _⟩
          clear hB0 hB1 hBW hW0
          refine (HV.out _ (bel_then HW.out (by repeat (first | exact HB.out | exact Below.refl _ _ | refine below_alloc ?_ _ | refine below_drewN ?_ _ | refine below_drew ?_ | refine below_set ?_ (by first | exact Nat.le_refl _ | omega | (simp; done) | (simp; omega)) _)))).mono ?_
          rintro e w1 ⟨rfl, hb1⟩
          have HB' : Hd (Below W0.heap.size W0 _) := ⟨bel_then (by repeat (first | exact HB.out | exact Below.refl _ _ | refine below_alloc ?_ _ | refine below_drewN ?_ _ | refine below_drew ?_ | refine below_set ?_ (by first | exact Nat.le_refl _ | omega | (simp; done) | (simp; omega)) _)) hb1⟩; clear HB; have HB := HB'; clear HB' hb1; replace q0 := (Q0.out.to HB.out).c0; replace q1 := (Q0.out.to HB.out).c1; replace g0 := (QR.out.to HB.out).c0; replace g1 := (QR.out.to HB.out).c1; replace u0 := (QR.out.to HB.out).f0; replace u1 := (QR.out.to HB.out).f1
          go_wp2_with fail
          obtain ⟨k0, k1, k2⟩ := two_set g0 g1 (.bool false) (.slice none 0 0)
          refine bodyPost_ret (v := .tuple #[.agg #[.bool false, .slice none 0 0], .int .i64 2]) (by simp [results, Try.results37, go_sem, k0, k1]) rfl ?_
          have nsz := HSZ.out
          exact ⟨none, 0, by rw [show ln (Int.natAbs 0) = 0 from ln_zero]; rfl, NN.nil _ _ _ (by omega), (by repeat (first | exact bel_then HW.out HB.out | refine below_set ?_ (by first | exact Nat.le_refl _ | omega | (simp; done) | (simp; omega)) _ | refine below_alloc ?_ _ | refine below_drewN ?_ _ | refine below_drew ?_))⟩
        · have hk2 : 64 < k := by
            rcases Int.lt_or_le 64 k with h | h
            · exact h
            · exact absurd ⟨hok, rfl, by omega, h⟩ hall
          clear hall hok hx
          go_enter Try.func37, Try.ntmps37
          go_wp2_with fail
          obtain ⟨W0, hW0⟩ : ∃ W : World, W = (w.alloc (.cells #[.bool false, .slice A1 n1 c1] 24)).alloc (.cells #[.bool false, .slice none 0 0] 24) := ⟨_, rfl⟩
          rw [← hW0]
          have HSZ : Hd (w.heap.size + 1 + 1 = W0.heap.size) := ⟨by rw [hW0]; simp⟩
          obtain ⟨hB0, hB1, hBW⟩ := boxes2 hW0
          have q0 := hB0.c0
          have q1 := hB0.c1
          have g0 := hB1.c0
          have g1 := hB1.c1
          have u0 := hB1.f0
          have u1 := hB1.f1
          have Q0 := Hd.mk hB0
          have QR := Hd.mk hB1
          have HW := Hd.mk hBW
          have HB : Hd (Below W0.heap.size W0 W0) := ⟨Below.refl _ _⟩
          clear hB0 hB1 hBW hW0
          refine (HV.out _ (bel_then HW.out (by repeat (first | exact HB.out | exact Below.refl _ _ | refine below_alloc ?_ _ | refine below_drewN ?_ _ | refine below_drew ?_ | refine below_set ?_ (by first | exact Nat.le_refl _ | omega | (simp; done) | (simp; omega)) _)))).mono ?_
          rintro e w1 ⟨rfl, hb1⟩
          have HB' : Hd (Below W0.heap.size W0 _) := ⟨bel_then (by repeat (first | exact HB.out | exact Below.refl _ _ | refine below_alloc ?_ _ | refine below_drewN ?_ _ | refine below_drew ?_ | refine below_set ?_ (by first | exact Nat.le_refl _ | omega | (simp; done) | (simp; omega)) _)) hb1⟩; clear HB; have HB := HB'; clear HB' hb1; replace q0 := (Q0.out.to HB.out).c0; replace q1 := (Q0.out.to HB.out).c1; replace g0 := (QR.out.to HB.out).c0; replace g1 := (QR.out.to HB.out).c1; replace u0 := (QR.out.to HB.out).f0; replace u1 := (QR.out.to HB.out).f1
          go_wp2_with fail
          obtain ⟨k0, k1, k2⟩ := two_set g0 g1 (.bool false) (.slice none 0 0)
          refine bodyPost_ret (v := .tuple #[.agg #[.bool false, .slice none 0 0], .int .i64 2]) (by simp [results, Try.results37, go_sem, k0, k1]) rfl ?_
          have nsz := HSZ.out
          exact ⟨none, 0, by rw [show ln (Int.natAbs 0) = 0 from ln_zero]; rfl, NN.nil _ _ _ (by omega), (by repeat (first | exact bel_then HW.out HB.out | refine below_set ?_ (by first | exact Nat.le_refl _ | omega | (simp; done) | (simp; omega)) _ | refine below_alloc ?_ _ | refine below_drewN ?_ _ | refine below_drew ?_))⟩
    · have hno : Raw.ok ⟨neg, A1, c1, xs⟩ = false := by simpa using hok
      rw [hno] at HV
      simp only at HV ⊢
      obtain ⟨n1, hn1⟩ : ∃ n, n = xs.length := ⟨_, rfl⟩
      rw [← hn1] at HV ⊢
      clear hn1 hall hok hno hx
      go_enter Try.func37, Try.ntmps37
      go_wp2_with fail
      obtain ⟨W0, hW0⟩ : ∃ W : World, W = (w.alloc (.cells #[.bool neg, .slice A1 n1 c1] 24)).alloc (.cells #[.bool false, .slice none 0 0] 24) := ⟨_, rfl⟩
      rw [← hW0]
      have HSZ : Hd (w.heap.size + 1 + 1 = W0.heap.size) := ⟨by rw [hW0]; simp⟩
      obtain ⟨hB0, hB1, hBW⟩ := boxes2 hW0
      have q0 := hB0.c0
      have q1 := hB0.c1
      have g0 := hB1.c0
      have g1 := hB1.c1
      have u0 := hB1.f0
      have u1 := hB1.f1
      have Q0 := Hd.mk hB0
      have QR := Hd.mk hB1
      have HW := Hd.mk hBW
      have HB : Hd (Below W0.heap.size W0 W0) := ⟨Below.refl _ _⟩
      clear hB0 hB1 hBW hW0
      refine (HV.out _ (bel_then HW.out (by repeat (first | exact HB.out | exact Below.refl _ _ | refine below_alloc ?_ _ | refine below_drewN ?_ _ | refine below_drew ?_ | refine below_set ?_ (by first | exact Nat.le_refl _ | omega | (simp; done) | (simp; omega)) _)))).mono ?_
      rintro e w1 ⟨rfl, hb1⟩
      have HB' : Hd (Below W0.heap.size W0 _) := ⟨bel_then (by repeat (first | exact HB.out | exact Below.refl _ _ | refine below_alloc ?_ _ | refine below_drewN ?_ _ | refine below_drew ?_ | refine below_set ?_ (by first | exact Nat.le_refl _ | omega | (simp; done) | (simp; omega)) _)) hb1⟩; clear HB; have HB := HB'; clear HB' hb1; replace q0 := (Q0.out.to HB.out).c0; replace q1 := (Q0.out.to HB.out).c1; replace g0 := (QR.out.to HB.out).c0; replace g1 := (QR.out.to HB.out).c1; replace u0 := (QR.out.to HB.out).f0; replace u1 := (QR.out.to HB.out).f1
      go_wp2_with fail
      obtain ⟨k0, k1, k2⟩ := two_set g0 g1 (.bool false) (.slice none 0 0)
      refine bodyPost_ret (v := .tuple #[.agg #[.bool false, .slice none 0 0], .int .i64 2]) (by simp [results, Try.results37, go_sem, k0, k1]) rfl ?_
      have nsz := HSZ.out
      exact ⟨none, 0, by rw [show ln (Int.natAbs 0) = 0 from ln_zero]; rfl, NN.nil _ _ _ (by omega), (by repeat (first | exact bel_then HW.out HB.out | refine below_set ?_ (by first | exact Nat.le_refl _ | omega | (simp; done) | (simp; omega)) _ | refine below_alloc ?_ _ | refine below_drewN ?_ _ | refine below_drew ?_))⟩
end Go.Proofs.Ytcjcpfafalkceaa
