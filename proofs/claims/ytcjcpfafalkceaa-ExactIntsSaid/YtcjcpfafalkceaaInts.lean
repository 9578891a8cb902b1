/- The law ExactInts: Valid, FromInt and ToInt answer as the reference does, and ToInt of FromInt returns the int. -/
import Derived.Test.YtcjcpfafalkceaaRL
import Derived.Test.YtcjcpfafalkceaaRing
set_option linter.unusedVariables false
namespace Go.Proofs.Ytcjcpfafalkceaa
open Go.RowKit
theorem toi_of (n : Int) (h1 : -9223372036854775808 ≤ n) (h2 : n ≤ 9223372036854775807) (A : Option Addr) (c : Nat) : toir (rawZ n A c) = n ∧ toie (rawZ n A c) = 0 := by
  have ho : (rawZ n A c).ok = true := by rw [rawZ_ok]; exact decide_eq_true (Nat.le_trans (ln_two h1 h2) (by omega))
  have hi : inInt (rawZ n A c).val := by rw [rawZ_val]; exact ⟨h1, h2⟩
  unfold toir toie
  rw [if_pos ⟨ho, hi⟩, if_pos ho, if_pos hi, rawZ_val]
  exact ⟨rfl, rfl⟩
set_option maxHeartbeats 2000000 in
set_option maxRecDepth 100000 in
theorem ExactInts_walk (x : Raw) (n : Int) (w : World) (hx : x.at_ w) (hn : (Lit.int .i64 n).wf = true) :
    Calls Try.prog 4 #[x.v, .int .i64 n] w fun e w' => e = .returned (.bool true) ∧ Below w.heap.size w w' := by
  have hb2 : -9223372036854775808 ≤ n ∧ n ≤ 9223372036854775807 := by
    simp [Lit.wf, IntKind.min, IntKind.max, IntKind.signed, IntKind.bits] at hn
    omega
  obtain ⟨h1, h2⟩ := hb2
  have HT1 := Hd.mk (fun W (hW : Below w.heap.size w W) => ToInt_calls x W (Raw.at_to hx hW))
  have HT2 := Hd.mk (fun W (hW : Below w.heap.size w W) => rToInt_calls x W (Raw.at_to hx hW))
  have HV1 := Hd.mk (fun W (hW : Below w.heap.size w W) => Valid_calls x W (Raw.at_to hx hW))
  have HV2 := Hd.mk (fun W (hW : Below w.heap.size w W) => rvalid_calls x W (Raw.at_to hx hW))
  have HF := Hd.mk (fun W => FromInt_calls n W h1 h2)
  have HB3 := Hd.mk (fun A c W (h : NN W A c n.natAbs) => (by have := ToInt_calls (rawZ n A c) W (rawZ_at h); rw [(toi_of n h1 h2 A c).1, (toi_of n h1 h2 A c).2] at this; exact this : Calls Try.prog 18 #[.agg #[.bool (decide (n < 0)), .slice A (ln n.natAbs) c]] W fun e w' => e = .returned (.tuple #[.int .i64 n, .int .i64 0]) ∧ Below W.heap.size W w'))
  have HWh := Hd.mk (fun W => Whole_calls n W h1 h2)
  have HS := Hd.mk (fun A c A' c' W (h : NN W A c n.natAbs) (h' : NN W A' c' n.natAbs) => same_calls n n A c A' c' W h h')
  simp only [decide_true] at HS
  obtain ⟨v1, hv1⟩ : ∃ v, v = toir x := ⟨_, rfl⟩
  obtain ⟨v2, hv2⟩ : ∃ v, v = toie x := ⟨_, rfl⟩
  obtain ⟨o, ho⟩ : ∃ v, v = x.ok := ⟨_, rfl⟩
  obtain ⟨b, hb⟩ : ∃ b, b = decide (n < 0) := ⟨_, rfl⟩
  rw [← hv1, ← hv2] at HT1 HT2
  rw [← ho] at HV1 HV2
  rw [← hb] at HB3 HS
  have HBB := Hd.mk hb
  clear hx hn hv1 hv2 ho hb
  unfold Raw.v at HT1 HT2 HV1 HV2 ⊢
  have e1 : (v1 == v1) = true := by simp
  have e2 : (v2 == v2) = true := by simp
  have e3 : (o == o) = true := by simp
  have e4 : (n == n) = true := by simp
  go_enter Try.func4, Try.ntmps4
  go_wp2_with fail
  obtain ⟨W0, hW0⟩ : ∃ W : World, W = w.alloc (.cells #[.bool x.neg, .slice x.A x.xs.length x.c] 24) := ⟨_, rfl⟩
  rw [← hW0]
  have HSZ : Hd (w.heap.size + 1 = W0.heap.size) := ⟨by rw [hW0]; simp⟩
  obtain ⟨hB0, hBW⟩ := boxes1 hW0
  have q0 := hB0.c0
  have q1 := hB0.c1
  have Q0 := Hd.mk hB0
  have HW := Hd.mk hBW
  have HB : Hd (Below W0.heap.size W0 W0) := ⟨Below.refl _ _⟩
  clear hB0 hBW hW0
  refine (HT1.out _ HW.out).mono ?_
  rintro e w1 ⟨rfl, hb1⟩
  have HB' : Hd (Below W0.heap.size W0 _) := ⟨bel_then (by repeat (first | exact HB.out | exact Below.refl _ _ | refine below_alloc ?_ _ | refine below_drewN ?_ _ | refine below_drew ?_ | refine below_set ?_ (by first | exact Nat.le_refl _ | omega | (simp; done) | (simp; omega)) _)) hb1⟩; clear HB; have HB := HB'; clear HB' hb1; replace q0 := (Q0.out.to HB.out).c0; replace q1 := (Q0.out.to HB.out).c1
  go_wp2_with fail
  refine (HT2.out _ (bel_then HW.out HB.out)).mono ?_
  rintro e w2 ⟨rfl, hb2⟩
  have HB' : Hd (Below W0.heap.size W0 _) := ⟨bel_then (by repeat (first | exact HB.out | exact Below.refl _ _ | refine below_alloc ?_ _ | refine below_drewN ?_ _ | refine below_drew ?_ | refine below_set ?_ (by first | exact Nat.le_refl _ | omega | (simp; done) | (simp; omega)) _)) hb2⟩; clear HB; have HB := HB'; clear HB' hb2; replace q0 := (Q0.out.to HB.out).c0; replace q1 := (Q0.out.to HB.out).c1
  go_wp2_with fail
  refine (HF.out _).mono ?_
  rintro e w3 ⟨A3, c3, rfl, hn3, hb3⟩
  rw [← HBB.out]
  have HN3 := Hd.mk hn3
  clear hn3
  have HB' : Hd (Below W0.heap.size W0 _) := ⟨bel_then (by repeat (first | exact HB.out | exact Below.refl _ _ | refine below_alloc ?_ _ | refine below_drewN ?_ _ | refine below_drew ?_ | refine below_set ?_ (by first | exact Nat.le_refl _ | omega | (simp; done) | (simp; omega)) _)) hb3⟩; clear HB; have HB := HB'; clear HB' hb3; replace q0 := (Q0.out.to HB.out).c0; replace q1 := (Q0.out.to HB.out).c1
  go_upto_region 4 with fail
  obtain ⟨W1, hW1⟩ : ∃ W : World, W = w3.alloc (.cells #[.bool b, .slice A3 (ln n.natAbs) c3] 24) := ⟨_, rfl⟩
  rw [← hW1]
  have HX : Hd (Blk W1 w3.heap.size 24 [.bool b, .slice A3 (ln n.natAbs) c3]) := ⟨by rw [hW1]; exact heap_alloc_new _ _⟩
  have hbw : Below w3.heap.size w3 W1 := by rw [hW1]; exact below_alloc (Below.refl _ _) _
  have HN3' := Hd.mk (HN3.out.to hbw)
  have HB' : Hd (Below W0.heap.size W0 _) := ⟨bel_then (by repeat (first | exact HB.out | exact Below.refl _ _ | refine below_alloc ?_ _ | refine below_drewN ?_ _ | refine below_drew ?_ | refine below_set ?_ (by first | exact Nat.le_refl _ | omega | (simp; done) | (simp; omega)) _)) hbw⟩; clear HB; have HB := HB'; clear HB' hbw; replace q0 := (Q0.out.to HB.out).c0; replace q1 := (Q0.out.to HB.out).c1
  clear hW1 HN3
  have x0 := HX.out.c0
  have x1 := HX.out.c1
  go_wp2_with fail
  refine (HB3.out _ _ _ HN3'.out).mono ?_
  rintro e w4 ⟨rfl, hb4⟩
  have HNN := Hd.mk (HN3'.out.to hb4)
  have HXX := Hd.mk (HX.out.to hb4)
  clear HN3' HX
  have HB' : Hd (Below W0.heap.size W0 _) := ⟨bel_then (by repeat (first | exact HB.out | exact Below.refl _ _ | refine below_alloc ?_ _ | refine below_drewN ?_ _ | refine below_drew ?_ | refine below_set ?_ (by first | exact Nat.le_refl _ | omega | (simp; done) | (simp; omega)) _)) hb4⟩; clear HB; have HB := HB'; clear HB' hb4; replace q0 := (Q0.out.to HB.out).c0; replace q1 := (Q0.out.to HB.out).c1
  replace x0 := HXX.out.c0
  replace x1 := HXX.out.c1
  go_upto_region 5 with fail
  have HC : Hd (Below w4.heap.size w4 w4) := ⟨Below.refl _ _⟩
  go_region_held3 (fun w' => w'.cell? ⟨w.heap.size, 0, none⟩ = some (.bool x.neg) ∧ w'.cell? ⟨w.heap.size, 1, none⟩ = some (.slice x.A x.xs.length x.c) ∧ w'.cell? ⟨w3.heap.size, 0, none⟩ = some (.bool b) ∧ w'.cell? ⟨w3.heap.size, 1, none⟩ = some (.slice A3 (ln n.natAbs) c3)) (first | exact ⟨q0, q1, x0, x1⟩ | (repeat' apply And.intro) <;> (first | exact q0 | exact q1 | exact x0 | exact x1 | (go_keep; done)))
    (first
      | (go_at_call 21; refine (HV1.out _ (bel_then HW.out (bel_then HB.out (by repeat (first | exact HC.out | refine below_drewN ?_ _ | refine below_drew ?_))))).mono ?_; rintro e w5 ⟨rfl, hb⟩; have HC' : Hd (Below w4.heap.size w4 _) := ⟨bel_then (by repeat (first | exact HC.out | refine below_drewN ?_ _ | refine below_drew ?_)) hb⟩; clear HC; have HC := HC'; clear HC'; replace q0 := (Q0.out.to (bel_then HB.out HC.out)).c0; replace q1 := (Q0.out.to (bel_then HB.out HC.out)).c1; replace x0 := (HXX.out.to HC.out).c0; replace x1 := (HXX.out.to HC.out).c1; clear hb)
      | (go_at_call 22; refine (HV2.out _ (bel_then HW.out (bel_then HB.out (by repeat (first | exact HC.out | refine below_drewN ?_ _ | refine below_drew ?_))))).mono ?_; rintro e w6 ⟨rfl, hb⟩; have HC' : Hd (Below w4.heap.size w4 _) := ⟨bel_then (by repeat (first | exact HC.out | refine below_drewN ?_ _ | refine below_drew ?_)) hb⟩; clear HC; have HC := HC'; clear HC'; replace q0 := (Q0.out.to (bel_then HB.out HC.out)).c0; replace q1 := (Q0.out.to (bel_then HB.out HC.out)).c1; replace x0 := (HXX.out.to HC.out).c0; replace x1 := (HXX.out.to HC.out).c1; clear hb)
      | (go_at_call 24; refine (HWh.out _).mono ?_; rintro e w7 ⟨A7, c7, rfl, hn7, hb⟩; rw [← HBB.out]; have HN7 := Hd.mk hn7; clear hn7; have HC' : Hd (Below w4.heap.size w4 _) := ⟨bel_then (by repeat (first | exact HC.out | refine below_drewN ?_ _ | refine below_drew ?_)) hb⟩; clear HC; have HC := HC'; clear HC'; replace q0 := (Q0.out.to (bel_then HB.out HC.out)).c0; replace q1 := (Q0.out.to (bel_then HB.out HC.out)).c1; replace x0 := (HXX.out.to HC.out).c0; replace x1 := (HXX.out.to HC.out).c1; clear hb)
      | (go_at_call 23; refine (rInt_calls _ _ _ _ _).mono ?_; rintro e w8 ⟨rfl, hb⟩; have HN8 := Hd.mk (HN7.out.to hb); have HC' : Hd (Below w4.heap.size w4 _) := ⟨bel_then (by repeat (first | exact HC.out | refine below_drewN ?_ _ | refine below_drew ?_)) hb⟩; clear HC; have HC := HC'; clear HC'; replace q0 := (Q0.out.to (bel_then HB.out HC.out)).c0; replace q1 := (Q0.out.to (bel_then HB.out HC.out)).c1; replace x0 := (HXX.out.to HC.out).c0; replace x1 := (HXX.out.to HC.out).c1; clear hb)
      | (go_at_call 14; refine (HS.out _ _ _ _ _ (HNN.out.to (by repeat (first | exact HC.out | refine below_drewN ?_ _ | refine below_drew ?_))) HN8.out).mono ?_; rintro e w9 ⟨rfl, hb⟩; have HC' : Hd (Below w4.heap.size w4 _) := ⟨bel_then (by repeat (first | exact HC.out | refine below_drewN ?_ _ | refine below_drew ?_)) hb⟩; clear HC; have HC := HC'; clear HC'; replace q0 := (Q0.out.to (bel_then HB.out HC.out)).c0; replace q1 := (Q0.out.to (bel_then HB.out HC.out)).c1; replace x0 := (HXX.out.to HC.out).c0; replace x1 := (HXX.out.to HC.out).c1; clear hb)
      | (go_at_call 17; refine (awake_calls _).mono ?_; rintro e w10 ⟨rfl, hb⟩; have HC' : Hd (Below w4.heap.size w4 _) := ⟨bel_then (by repeat (first | exact HC.out | refine below_drewN ?_ _ | refine below_drew ?_)) hb⟩; clear HC; have HC := HC'; clear HC'; replace q0 := (Q0.out.to (bel_then HB.out HC.out)).c0; replace q1 := (Q0.out.to (bel_then HB.out HC.out)).c1; replace x0 := (HXX.out.to HC.out).c0; replace x1 := (HXX.out.to HC.out).c1; clear hb))
  go_wp2_with fail
  go_ret
  exact ⟨rfl, bel_then HW.out (bel_then HB.out HC.out)⟩
end Go.Proofs.Ytcjcpfafalkceaa
