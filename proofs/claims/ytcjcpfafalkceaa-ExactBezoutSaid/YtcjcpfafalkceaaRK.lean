/- ints out of whole numbers. -/
import Derived.Test.YtcjcpfafalkceaaRJ
import Derived.Deep.CutBlock
set_option linter.unusedVariables false
namespace Go.Proofs.Ytcjcpfafalkceaa
open Go.RowKit
def inInt (z : Int) : Prop := -9223372036854775808 ≤ z ∧ z ≤ 9223372036854775807
instance (z : Int) : Decidable (inInt z) := by unfold inInt; exact inferInstance
/-- The int of an Int, and the code. -/
def toir (x : Raw) : Int := if x.ok = true ∧ inInt x.val then x.val else 0
def toie (x : Raw) : Int := if x.ok = true then (if inInt x.val then 0 else 5) else 2
theorem or_words (a x : Nat) (ha : a < 4294967296) (hx : x < 4294967296) : bits .or .u64 (a : Int) ((x : Int) * 4294967296) = ((a + 4294967296 * x : Nat) : Int) := by
  have e : ((x : Int) * 4294967296) = ((4294967296 * x : Nat) : Int) := by omega
  rw [e, u64_or_nat _ _ (by omega) (by omega)]
  have := Nat.two_pow_add_eq_or_of_lt (i := 32) ha x
  rw [Nat.add_comm, Nat.or_comm]
  congr 1
  exact this.symm
theorem or_words0 (x : Nat) (hx : x < 4294967296) : bits .or .u64 0 (x : Int) = (x : Int) := by
  have := u64_or_nat 0 x (by omega) (by omega)
  simpa using this
set_option maxHeartbeats 1000000 in
set_option maxRecDepth 100000 in
theorem ToInt_calls (x : Raw) (w : World) (hx : x.at_ w) :
    Calls Try.prog 18 #[x.v] w fun e w' => e = .returned (.tuple #[.int .i64 (toir x), .int .i64 (toie x)]) ∧ Below w.heap.size w w' := by
  have HV := Hd.mk (fun g W (h : Below w.heap.size w W) (hB : Blk W g 24 [.bool x.neg, .slice x.A x.xs.length x.c]) => valid_calls [x] g 1 W (raws_one h hx hB) rfl (by omega))
  rw [all_one] at HV
  unfold toir toie
  by_cases hok : x.ok = true
  · rw [hok] at HV
    rw [if_pos hok]
    have hl := Raw.ok_len hok hx.2.1
    have hN := Raw.nn hok hx
    have hln := (Raw.num hok hx.2.1).2
    have hneg := Raw.ok_neg hok hx.2.1
    have HP := Hd.mk (fun W (hW : Below w.heap.size w W) => bits_calls x.A x.c x.val.natAbs W (hN.to hW) (by omega))
    rw [hln] at HP
    obtain ⟨v, hv⟩ : ∃ v, v = nbits x.val.natAbs := ⟨_, rfl⟩
    rw [← hv] at HP
    have HVB := Hd.mk hv
    unfold Raw.v
    by_cases h64 : v ≤ 64
    · have hn2 : x.xs.length ≤ 2 := by
        rw [← hln]
        apply ln_le
        rw [hv] at h64
        have := nbits_le.1 h64
        rwa [show B ^ 2 = 2 ^ 64 from by decide]
      have hval : Go.Proofs.Ytcjcpfafalkceaa.val x.xs = x.val.natAbs := (Raw.natAbs x).symm
      have HRN := Hd.mk hx.1
      have HDG := Hd.mk hx.2.1
      have hlc := hx.2.2.1
      have hcm := hx.2.2.2
      obtain ⟨z, hz⟩ : ∃ z, z = x.val := ⟨_, rfl⟩
      rw [← hz] at hval hneg ⊢
      obtain ⟨rv, hrv⟩ : ∃ v : Int, v = if x.ok = true ∧ inInt z then z else 0 := ⟨_, rfl⟩
      obtain ⟨re, hre⟩ : ∃ v : Int, v = if inInt z then 0 else 5 := ⟨_, rfl⟩
      rw [← hrv, ← hre]
      have HR1 : Hd (inInt z → rv = z ∧ re = 0) := ⟨fun h => ⟨by rw [hrv, if_pos ⟨hok, h⟩], by rw [hre, if_pos h]⟩⟩
      have HR2 : Hd (¬ inInt z → rv = 0 ∧ re = 5) := ⟨fun h => ⟨by rw [hrv, if_neg (fun k => h k.2)], by rw [hre, if_neg h]⟩⟩
      clear hrv hre
      have HVAL := Hd.mk hval
      have HNEG := Hd.mk hneg
      have h64' : ¬ (64 : Int) < (v : Int) := by omega
      obtain ⟨b, A, c, xs⟩ := x
      simp only at HV HP HRN HDG hlc hcm hn2 HVAL HNEG ⊢
      obtain ⟨n, hn⟩ : ∃ n, n = xs.length := ⟨_, rfl⟩
      rw [← hn] at HV HP hlc hn2 ⊢
      have HLEN := Hd.mk hn
      clear hx hok hv hl hN hln hneg h64 HVB hval hn hz
      go_enter Try.func18, Try.ntmps18
      go_wp2_with fail
      obtain ⟨W0, hW0⟩ : ∃ W : World, W = w.alloc (.cells #[.bool b, .slice A n c] 24) := ⟨_, rfl⟩
      rw [← hW0]
      have HSZ : Hd (w.heap.size + 1 = W0.heap.size) := ⟨by rw [hW0]; simp⟩
      obtain ⟨hB0, hBW⟩ := boxes1 hW0
      have q0 := hB0.c0
      have q1 := hB0.c1
      have Q0 := Hd.mk hB0
      have HW := Hd.mk hBW
      have HB : Hd (Below W0.heap.size W0 W0) := ⟨Below.refl _ _⟩
      clear hB0 hBW hW0
      refine (HV.out _ _ (bel_then HW.out (by repeat (first | exact HB.out | exact Below.refl _ _ | refine below_alloc ?_ _ | refine below_drewN ?_ _ | refine below_drew ?_ | refine below_set ?_ (by first | exact Nat.le_refl _ | omega | (simp; done) | (simp; omega)) _))) (blk_new HSZ.out _ _)).mono ?_
      rintro e w1 ⟨rfl, hb1⟩
      have HB' : Hd (Below W0.heap.size W0 _) := ⟨bel_then (by repeat (first | exact HB.out | exact Below.refl _ _ | refine below_alloc ?_ _ | refine below_drewN ?_ _ | refine below_drew ?_ | refine below_set ?_ (by first | exact Nat.le_refl _ | omega | (simp; done) | (simp; omega)) _)) hb1⟩; clear HB; have HB := HB'; clear HB' hb1; replace q0 := (Q0.out.to HB.out).c0; replace q1 := (Q0.out.to HB.out).c1
      go_wp2_with fail
      refine (of_calls _ _ _ _ _).mono ?_
      rintro e w2 ⟨rfl, hb2⟩
      have HB' : Hd (Below W0.heap.size W0 _) := ⟨bel_then (by repeat (first | exact HB.out | exact Below.refl _ _ | refine below_alloc ?_ _ | refine below_drewN ?_ _ | refine below_drew ?_ | refine below_set ?_ (by first | exact Nat.le_refl _ | omega | (simp; done) | (simp; omega)) _)) hb2⟩; clear HB; have HB := HB'; clear HB' hb2; replace q0 := (Q0.out.to HB.out).c0; replace q1 := (Q0.out.to HB.out).c1
      go_wp2_with fail
      refine (HP.out _ (bel_then HW.out (by repeat (first | exact HB.out | exact Below.refl _ _ | refine below_alloc ?_ _ | refine below_drewN ?_ _ | refine below_drew ?_ | refine below_set ?_ (by first | exact Nat.le_refl _ | omega | (simp; done) | (simp; omega)) _)))).mono ?_
      rintro e w3 ⟨rfl, rfl⟩
      obtain ⟨W1, hW1⟩ : ∃ W : World, W = w2.alloc (.cells #[.bool b, .slice A n c] 70) := ⟨_, rfl⟩
      rw [← hW1]
      have hX : Blk W1 w2.heap.size 70 [.bool b, .slice A n c] := by rw [hW1]; exact heap_alloc_new _ _
      have x0 := hX.c0
      have x1 := hX.c1
      have hbw : Below W0.heap.size W0 W1 := by rw [hW1]; exact below_alloc HB.out _
      have HB1 := Hd.mk (bel_then HW.out hbw)
      clear hW1 hX hbw q0 q1 HV HP
      go_wp2_with fail
      go_loop [5, 21] (fun s5 s21 => ∃ k : Nat, k ≤ n ∧ s21 = .int .i64 (k : Int) ∧ s5 = .int .u64 ((Go.Proofs.Ytcjcpfafalkceaa.val (xs.take k) : Nat) : Int)) (fun _ s => n - (intOf s).toNat)
      case atStart => exact ⟨0, Nat.zero_le _, rfl, rfl⟩
      case round =>
        obtain ⟨k, hk, rfl, rfl⟩ := hrel
        by_cases hkn : k < n
        · obtain ⟨ad, rfl, hcell⟩ := (HRN.out.to HB1.out).at_ (k := k) (by have := HLEN.out; omega)
          obtain ⟨y, hy⟩ : ∃ y, y = xs.getD k 0 := ⟨_, rfl⟩
          have hyl : y < 4294967296 := by rw [hy]; exact dg_get HDG.out k
          have hvt := val_take_next xs k
          rw [← hy] at hcell hvt
          have HVT := Hd.mk hvt
          clear hy hvt
          rcases k with _ | k
          · rw [Addr.add_zero'] at hcell
            go_wp2_with fail
            go_round
            case rel =>
              refine ⟨1, by omega, rfl, ?_⟩
              show Value.int _ (bits .or .u64 0 (y : Int)) = _
              rw [or_words0 y hyl, HVT.out]
              simp [Go.Proofs.Ytcjcpfafalkceaa.val]
            case measure => simp [intOf]; omega
          · have hk0 : k = 0 := by omega
            subst hk0
            simp only [Addr.add_succ', Nat.zero_add] at hcell
            have hvl : Go.Proofs.Ytcjcpfafalkceaa.val (xs.take 1) < 4294967296 := by
              have h1 := val_lt (dg_take HDG.out 1)
              have h2 : B ^ (xs.take 1).length ≤ B ^ 1 := Nat.pow_le_pow_right B_pos (by rw [List.length_take]; omega)
              have h3 : B ^ 1 = 4294967296 := by decide
              omega
            go_wp2_with fail
            go_round
            case rel =>
              refine ⟨2, by omega, rfl, ?_⟩
              rw [or_words _ y hvl hyl, HVT.out]
              rfl
            case measure => simp [intOf]; omega
        · have hke : k = n := by omega
          subst hke
          have hv2 : Go.Proofs.Ytcjcpfafalkceaa.val (xs.take k) = z.natAbs := by rw [List.take_of_length_le (Nat.le_of_eq HLEN.out.symm)]; exact HVAL.out
          rw [hv2]
          obtain ⟨q, hq⟩ : ∃ q, q = z.natAbs := ⟨_, rfl⟩
          rw [← hq]
          clear hv2
          by_cases hz0 : z < 0
          · have hb : b = true := by rw [HNEG.out]; exact decide_eq_true hz0
            subst hb
            by_cases hr : q ≤ 9223372036854775808
            · have hi : inInt z := by unfold inInt; omega
              have hres : wrap64 (IntKind.u64.wrap (-(q : Int))) = z := by rw [IntKind.wrap_u64]; unfold wrap64; omega
              have HRES := Hd.mk hres
              have HI := Hd.mk (HR1.out hi)
              have hr' : (q : Int) ≤ 9223372036854775808 := by omega
              clear hi hres hq hz0
              go_wp2_with fail
              go_ret2
              refine ⟨?_, HB1.out⟩
              rw [HI.out.1, HI.out.2]
              first | rfl | (rw [HRES.out]; rfl)
            · have hi : ¬ inInt z := by unfold inInt; omega
              have HI := Hd.mk (HR2.out hi)
              have hr' : ¬ (q : Int) ≤ 9223372036854775808 := by omega
              clear hi hq hz0
              go_wp2_with fail
              go_ret2
              exact ⟨by rw [HI.out.1, HI.out.2]; rfl, HB1.out⟩
          · have hb : b = false := by rw [HNEG.out]; exact decide_eq_false hz0
            subst hb
            by_cases hr : q < 9223372036854775808
            · have hi : inInt z := by unfold inInt; omega
              have hres : (q : Int) = z := by omega
              have HRES := Hd.mk hres
              have HI := Hd.mk (HR1.out hi)
              have hr' : (q : Int) < 9223372036854775808 := by omega
              clear hi hres hq hz0
              go_wp2_with fail
              go_ret2
              refine ⟨?_, HB1.out⟩
              rw [HI.out.1, HI.out.2]
              first | rfl | (rw [HRES.out]; rfl)
            · have hi : ¬ inInt z := by unfold inInt; omega
              have HI := Hd.mk (HR2.out hi)
              have hr' : ¬ (q : Int) < 9223372036854775808 := by omega
              clear hi hq hz0
              go_wp2_with fail
              go_ret2
              exact ⟨by rw [HI.out.1, HI.out.2]; rfl, HB1.out⟩
    · have hni : ¬ inInt x.val := by
        intro hc
        apply h64
        rw [hv]
        apply nbits_le.2
        unfold inInt at hc
        have : (2 : Nat) ^ 64 = 18446744073709551616 := by decide
        omega
      rw [if_neg (fun h => hni h.2), if_neg hni]
      have h64' : (64 : Int) < (v : Int) := by omega
      clear hx hok hv hl hN hln hneg hni h64 HVB
      go_enter Try.func18, Try.ntmps18
      go_wp2_with fail
      obtain ⟨W0, hW0⟩ : ∃ W : World, W = w.alloc (.cells #[.bool x.neg, .slice x.A x.xs.length x.c] 24) := ⟨_, rfl⟩
      rw [← hW0]
      have HSZ : Hd (w.heap.size + 1 = W0.heap.size) := ⟨by rw [hW0]; simp⟩
      obtain ⟨hB0, hBW⟩ := boxes1 hW0
      have q0 := hB0.c0
      have q1 := hB0.c1
      have Q0 := Hd.mk hB0
      have HW := Hd.mk hBW
      have HB : Hd (Below W0.heap.size W0 W0) := ⟨Below.refl _ _⟩
      clear hB0 hBW hW0
      refine (HV.out _ _ (bel_then HW.out (by repeat (first | exact HB.out | exact Below.refl _ _ | refine below_alloc ?_ _ | refine below_drewN ?_ _ | refine below_drew ?_ | refine below_set ?_ (by first | exact Nat.le_refl _ | omega | (simp; done) | (simp; omega)) _))) (blk_new HSZ.out _ _)).mono ?_
      rintro e w1 ⟨rfl, hb1⟩
      have HB' : Hd (Below W0.heap.size W0 _) := ⟨bel_then (by repeat (first | exact HB.out | exact Below.refl _ _ | refine below_alloc ?_ _ | refine below_drewN ?_ _ | refine below_drew ?_ | refine below_set ?_ (by first | exact Nat.le_refl _ | omega | (simp; done) | (simp; omega)) _)) hb1⟩; clear HB; have HB := HB'; clear HB' hb1; replace q0 := (Q0.out.to HB.out).c0; replace q1 := (Q0.out.to HB.out).c1
      go_wp2_with fail
      refine (of_calls _ _ _ _ _).mono ?_
      rintro e w2 ⟨rfl, hb2⟩
      have HB' : Hd (Below W0.heap.size W0 _) := ⟨bel_then (by repeat (first | exact HB.out | exact Below.refl _ _ | refine below_alloc ?_ _ | refine below_drewN ?_ _ | refine below_drew ?_ | refine below_set ?_ (by first | exact Nat.le_refl _ | omega | (simp; done) | (simp; omega)) _)) hb2⟩; clear HB; have HB := HB'; clear HB' hb2; replace q0 := (Q0.out.to HB.out).c0; replace q1 := (Q0.out.to HB.out).c1
      go_wp2_with fail
      refine (HP.out _ (bel_then HW.out (by repeat (first | exact HB.out | exact Below.refl _ _ | refine below_alloc ?_ _ | refine below_drewN ?_ _ | refine below_drew ?_ | refine below_set ?_ (by first | exact Nat.le_refl _ | omega | (simp; done) | (simp; omega)) _)))).mono ?_
      rintro e w3 ⟨rfl, rfl⟩
      go_wp2_with fail
      go_ret2
      exact ⟨rfl, bel_then HW.out (by repeat (first | exact HB.out | exact Below.refl _ _ | refine below_alloc ?_ _ | refine below_drewN ?_ _ | refine below_drew ?_ | refine below_set ?_ (by first | exact Nat.le_refl _ | omega | (simp; done) | (simp; omega)) _))⟩
  · have hno : x.ok = false := by simpa using hok
    rw [hno] at HV
    rw [if_neg (fun h => hok h.1), if_neg hok]
    unfold Raw.v
    clear hx hok hno
    go_enter Try.func18, Try.ntmps18
    go_wp2_with fail
    obtain ⟨W0, hW0⟩ : ∃ W : World, W = w.alloc (.cells #[.bool x.neg, .slice x.A x.xs.length x.c] 24) := ⟨_, rfl⟩
    rw [← hW0]
    have HSZ : Hd (w.heap.size + 1 = W0.heap.size) := ⟨by rw [hW0]; simp⟩
    obtain ⟨hB0, hBW⟩ := boxes1 hW0
    have q0 := hB0.c0
    have q1 := hB0.c1
    have Q0 := Hd.mk hB0
    have HW := Hd.mk hBW
    have HB : Hd (Below W0.heap.size W0 W0) := ⟨Below.refl _ _⟩
    clear hB0 hBW hW0
    refine (HV.out _ _ (bel_then HW.out (by repeat (first | exact HB.out | exact Below.refl _ _ | refine below_alloc ?_ _ | refine below_drewN ?_ _ | refine below_drew ?_ | refine below_set ?_ (by first | exact Nat.le_refl _ | omega | (simp; done) | (simp; omega)) _))) (blk_new HSZ.out _ _)).mono ?_
    rintro e w1 ⟨rfl, hb1⟩
    have HB' : Hd (Below W0.heap.size W0 _) := ⟨bel_then (by repeat (first | exact HB.out | exact Below.refl _ _ | refine below_alloc ?_ _ | refine below_drewN ?_ _ | refine below_drew ?_ | refine below_set ?_ (by first | exact Nat.le_refl _ | omega | (simp; done) | (simp; omega)) _)) hb1⟩; clear HB; have HB := HB'; clear HB' hb1; replace q0 := (Q0.out.to HB.out).c0; replace q1 := (Q0.out.to HB.out).c1
    go_wp2_with fail
    go_ret2
    exact ⟨rfl, bel_then HW.out HB.out⟩
end Go.Proofs.Ytcjcpfafalkceaa
