/- The reference's ToInt. -/
import Derived.Test.YtcjcpfafalkceaaRK
set_option linter.unusedVariables false
namespace Go.Proofs.Ytcjcpfafalkceaa
open Go.RowKit
set_option maxHeartbeats 2000000 in
set_option maxRecDepth 100000 in
theorem rToInt_calls (x : Raw) (w : World) (hx : x.at_ w) :
    Calls Try.prog 19 #[x.v] w fun e w' => e = .returned (.tuple #[.int .i64 (toir x), .int .i64 (toie x)]) ∧ Below w.heap.size w w' := by
  have HV := Hd.mk (fun W (hW : Below w.heap.size w W) => rvalid_calls x W (Raw.at_to hx hW))
  unfold toir toie
  by_cases hok : x.ok = true
  · rw [hok] at HV
    rw [if_pos hok]
    have hl := Raw.ok_len hok hx.2.1
    have hN := Raw.nn hok hx
    have hln := (Raw.num hok hx.2.1).2
    have hneg := Raw.ok_neg hok hx.2.1
    have hval : Go.Proofs.Ytcjcpfafalkceaa.val x.xs = x.val.natAbs := (Raw.natAbs x).symm
    have HO := Hd.mk (fun (m : Int) A c W (hW : Below w.heap.size w W) (hm : NN W A c m.natAbs) (hl2 : ln m.natAbs ≤ 2) => rOrder_calls x.val m x.A x.c A c W (hN.to hW) hm (by omega) (by omega))
    rw [hln, ← hneg] at HO
    have HRN := Hd.mk hx.1
    have HDG := Hd.mk hx.2.1
    have hlc := hx.2.2.1
    have hcm := hx.2.2.2
    obtain ⟨z, hz⟩ : ∃ z, z = x.val := ⟨_, rfl⟩
    rw [← hz] at hval hneg HO ⊢
    obtain ⟨rv, hrv⟩ : ∃ v : Int, v = if x.ok = true ∧ inInt z then z else 0 := ⟨_, rfl⟩
    obtain ⟨re, hre⟩ : ∃ v : Int, v = if inInt z then 0 else 5 := ⟨_, rfl⟩
    rw [← hrv, ← hre]
    have HR1 : Hd (inInt z → rv = z ∧ re = 0) := ⟨fun h => ⟨by rw [hrv, if_pos ⟨hok, h⟩], by rw [hre, if_pos h]⟩⟩
    have HR2 : Hd (¬ inInt z → rv = 0 ∧ re = 5) := ⟨fun h => ⟨by rw [hrv, if_neg (fun k => h k.2)], by rw [hre, if_neg h]⟩⟩
    clear hrv hre
    have HVAL := Hd.mk hval
    have HNEG := Hd.mk hneg
    have HLN : Hd (ln z.natAbs = x.xs.length) := ⟨by rw [hz]; exact hln⟩
    unfold Raw.v at HV ⊢
    obtain ⟨b, A, c, xs⟩ := x
    simp only at HV HO HRN HDG hlc hcm HVAL HNEG HLN ⊢
    obtain ⟨n, hn⟩ : ∃ n, n = xs.length := ⟨_, rfl⟩
    rw [← hn] at HV HO hlc HLN ⊢
    have HLEN := Hd.mk hn
    obtain ⟨v1, hv1⟩ : ∃ v, v = sgnv (z - (-9223372036854775808)) := ⟨_, rfl⟩
    obtain ⟨v2, hv2⟩ : ∃ v, v = sgnv (z - 9223372036854775807) := ⟨_, rfl⟩
    have HO1 : Hd (∀ A2 c2 W, Below w.heap.size w W → NN W A2 c2 (Int.natAbs (-9223372036854775808)) → Calls Try.prog 34 #[.agg #[.bool b, .slice A n c], .agg #[.bool true, .slice A2 (ln 9223372036854775808) c2]] W fun e w' => e = .returned (.int .i64 v1) ∧ Below W.heap.size W w') := ⟨fun A2 c2 W h k => by rw [hv1]; exact HO.out _ A2 c2 W h k (ln_two (by omega) (by omega))⟩
    have HO2 : Hd (∀ A2 c2 W, Below w.heap.size w W → NN W A2 c2 (Int.natAbs 9223372036854775807) → Calls Try.prog 34 #[.agg #[.bool b, .slice A n c], .agg #[.bool false, .slice A2 (ln 9223372036854775807) c2]] W fun e w' => e = .returned (.int .i64 v2) ∧ Below W.heap.size W w') := ⟨fun A2 c2 W h k => by rw [hv2]; exact HO.out _ A2 c2 W h k (ln_two (by omega) (by omega))⟩
    have HIN : Hd (inInt z ↔ (¬ v1 < 0 ∧ ¬ 0 < v2)) := ⟨by
      rw [hv1, hv2]
      unfold inInt sgnv
      constructor
      · rintro ⟨h1, h2⟩
        constructor <;> (split <;> (try split) <;> omega)
      · rintro ⟨h1, h2⟩
        constructor
        · by_cases h : z - -9223372036854775808 < 0
          · rw [if_pos h] at h1; omega
          · omega
        · by_cases h : z - 9223372036854775807 < 0
          · omega
          · by_cases h3 : z - 9223372036854775807 = 0
            · omega
            · rw [if_neg h, if_neg h3] at h2; omega⟩
    have HW1 := Hd.mk (fun W => Whole_calls (-9223372036854775808) W (by omega) (by omega))
    have HW2 := Hd.mk (fun W => Whole_calls 9223372036854775807 W (by omega) (by omega))
    clear hx hok hl hN hln hneg hval hn hz hv1 hv2 HO
    go_enter Try.func19, Try.ntmps19
    go_wp2_with fail
    obtain ⟨W0, hW0⟩ : ∃ W : World, W = w.alloc (.cells #[.bool b, .slice A n c] 24) := ⟨_, rfl⟩
    rw [← hW0]
    have HSZ : Hd (w.heap.size + 1 = W0.heap.size) := ⟨by rw [hW0]; simp⟩
    obtain ⟨hB0, hBW⟩ := boxes1 hW0
    have q0 := hB0.c0
    have q1 := hB0.c1
    have Q0 := Hd.mk hB0
    have HW := Hd.mk hBW
    have HB : Hd (Below W0.heap.size W0 W0) := ⟨Below.refl _ _⟩
    clear hB0 hBW hW0
    refine (HV.out _ HW.out).mono ?_
    rintro e w1 ⟨rfl, hb1⟩
    have HB' : Hd (Below W0.heap.size W0 _) := ⟨bel_then (by repeat (first | exact HB.out | exact Below.refl _ _ | refine below_alloc ?_ _ | refine below_drewN ?_ _ | refine below_drew ?_ | refine below_set ?_ (by first | exact Nat.le_refl _ | omega | (simp; done) | (simp; omega)) _)) hb1⟩; clear HB; have HB := HB'; clear HB' hb1; replace q0 := (Q0.out.to HB.out).c0; replace q1 := (Q0.out.to HB.out).c1
    go_wp2_with fail
    refine (rOf_calls _ _ _ _ _).mono ?_
    rintro e w2 ⟨rfl, hb2⟩
    have HB' : Hd (Below W0.heap.size W0 _) := ⟨bel_then (by repeat (first | exact HB.out | exact Below.refl _ _ | refine below_alloc ?_ _ | refine below_drewN ?_ _ | refine below_drew ?_ | refine below_set ?_ (by first | exact Nat.le_refl _ | omega | (simp; done) | (simp; omega)) _)) hb2⟩; clear HB; have HB := HB'; clear HB' hb2; replace q0 := (Q0.out.to HB.out).c0; replace q1 := (Q0.out.to HB.out).c1
    go_upto_region 4 with fail
    obtain ⟨W1, hW1⟩ : ∃ W : World, W = w2.alloc (.cells #[.bool b, .slice A n c] 38) := ⟨_, rfl⟩
    rw [← hW1]
    have HX : Hd (Blk W1 w2.heap.size 38 [.bool b, .slice A n c]) := ⟨by rw [hW1]; exact heap_alloc_new _ _⟩
    have hb : Below w2.heap.size w2 W1 := by rw [hW1]; exact below_alloc (Below.refl _ _) _
    have HB' : Hd (Below W0.heap.size W0 _) := ⟨bel_then (by repeat (first | exact HB.out | exact Below.refl _ _ | refine below_alloc ?_ _ | refine below_drewN ?_ _ | refine below_drew ?_ | refine below_set ?_ (by first | exact Nat.le_refl _ | omega | (simp; done) | (simp; omega)) _)) hb⟩; clear HB; have HB := HB'; clear HB' hb; replace q0 := (Q0.out.to HB.out).c0; replace q1 := (Q0.out.to HB.out).c1
    clear hW1
    obtain ⟨bb, hbb⟩ : ∃ bb, bb = decide (v1 < 0 ∨ 0 < v2) := ⟨_, rfl⟩
    have HBB := Hd.mk hbb
    clear hbb
    go_cut [22] (fun s wx => s = .bool bb ∧ Below W1.heap.size W1 wx)
    case first => as_aux_lemma =>
      have x0 := HX.out.c0
      have x1 := HX.out.c1
      have HC : Hd (Below W1.heap.size W1 W1) := ⟨Below.refl _ _⟩
      by_cases h1 : v1 < 0
      · have hd : decide (v1 < 0) = true := decide_eq_true h1
        have HD : Hd (decide (v1 < 0 ∨ 0 < v2) = true) := ⟨decide_eq_true (.inl h1)⟩
        clear h1
        go_region_with (first
          | ((go_at_call 24); (with_reducible refine (HW1.out _).mono ?_); rintro e w3 ⟨A2, c2, rfl, hn, hb⟩; have HN2 := Hd.mk hn; clear hn; have HC' : Hd (Below W1.heap.size W1 _) := ⟨bel_then (by repeat (first | exact HC.out | refine below_drewN ?_ _ | refine below_drew ?_)) hb⟩; clear HC; have HC := HC'; clear HC'; replace x0 := (HX.out.to HC.out).c0; replace x1 := (HX.out.to HC.out).c1; clear hb)
          | ((go_at_call 34); (with_reducible refine (HO1.out A2 c2 _ (bel_then HW.out (bel_then HB.out (by repeat (first | exact HC.out | refine below_drewN ?_ _ | refine below_drew ?_)))) HN2.out).mono ?_); rintro e w4 ⟨rfl, hb⟩; have HC' : Hd (Below W1.heap.size W1 _) := ⟨bel_then (by repeat (first | exact HC.out | refine below_drewN ?_ _ | refine below_drew ?_)) hb⟩; clear HC; have HC := HC'; clear HC'; replace x0 := (HX.out.to HC.out).c0; replace x1 := (HX.out.to HC.out).c1; clear hb))
        all_goals
          go_wp2_with fail
          go_meet
          exact ⟨by rw [HBB.out, HD.out], by first | exact HC.out | exact below_drew HC.out⟩
      · have hd : decide (v1 < 0) = false := decide_eq_false h1
        by_cases h2 : 0 < v2
        · have hd2 : decide (0 < v2) = true := decide_eq_true h2
          have HD : Hd (decide (v1 < 0 ∨ 0 < v2) = true) := ⟨decide_eq_true (.inr h2)⟩
          clear h1 h2
          go_region_with (first
            | ((go_at_call 24); (with_reducible refine (HW1.out _).mono ?_); rintro e w3 ⟨A2, c2, rfl, hn, hb⟩; have HN2 := Hd.mk hn; clear hn; have HC' : Hd (Below W1.heap.size W1 _) := ⟨bel_then (by repeat (first | exact HC.out | refine below_drewN ?_ _ | refine below_drew ?_)) hb⟩; clear HC; have HC := HC'; clear HC'; replace x0 := (HX.out.to HC.out).c0; replace x1 := (HX.out.to HC.out).c1; clear hb)
            | ((go_at_call 24); (with_reducible refine (HW2.out _).mono ?_); rintro e w3 ⟨A3, c3, rfl, hn, hb⟩; have HN3 := Hd.mk hn; clear hn; have HC' : Hd (Below W1.heap.size W1 _) := ⟨bel_then (by repeat (first | exact HC.out | refine below_drewN ?_ _ | refine below_drew ?_)) hb⟩; clear HC; have HC := HC'; clear HC'; replace x0 := (HX.out.to HC.out).c0; replace x1 := (HX.out.to HC.out).c1; clear hb)
            | ((go_at_call 34); (with_reducible refine (HO1.out A2 c2 _ (bel_then HW.out (bel_then HB.out (by repeat (first | exact HC.out | refine below_drewN ?_ _ | refine below_drew ?_)))) HN2.out).mono ?_); rintro e w4 ⟨rfl, hb⟩; have HC' : Hd (Below W1.heap.size W1 _) := ⟨bel_then (by repeat (first | exact HC.out | refine below_drewN ?_ _ | refine below_drew ?_)) hb⟩; clear HC; have HC := HC'; clear HC'; replace x0 := (HX.out.to HC.out).c0; replace x1 := (HX.out.to HC.out).c1; clear hb)
            | ((go_at_call 34); (with_reducible refine (HO2.out A3 c3 _ (bel_then HW.out (bel_then HB.out (by repeat (first | exact HC.out | refine below_drewN ?_ _ | refine below_drew ?_)))) HN3.out).mono ?_); rintro e w4 ⟨rfl, hb⟩; have HC' : Hd (Below W1.heap.size W1 _) := ⟨bel_then (by repeat (first | exact HC.out | refine below_drewN ?_ _ | refine below_drew ?_)) hb⟩; clear HC; have HC := HC'; clear HC'; replace x0 := (HX.out.to HC.out).c0; replace x1 := (HX.out.to HC.out).c1; clear hb))
          all_goals
            go_wp2_with fail
            go_meet
            exact ⟨by rw [HBB.out, HD.out], by first | exact HC.out | exact below_drew HC.out⟩
        · have hd2 : decide (0 < v2) = false := decide_eq_false h2
          have HD : Hd (decide (v1 < 0 ∨ 0 < v2) = false) := ⟨decide_eq_false (fun h => h.elim h1 h2)⟩
          clear h1 h2
          go_region_with (first
            | ((go_at_call 24); (with_reducible refine (HW1.out _).mono ?_); rintro e w3 ⟨A2, c2, rfl, hn, hb⟩; have HN2 := Hd.mk hn; clear hn; have HC' : Hd (Below W1.heap.size W1 _) := ⟨bel_then (by repeat (first | exact HC.out | refine below_drewN ?_ _ | refine below_drew ?_)) hb⟩; clear HC; have HC := HC'; clear HC'; replace x0 := (HX.out.to HC.out).c0; replace x1 := (HX.out.to HC.out).c1; clear hb)
            | ((go_at_call 24); (with_reducible refine (HW2.out _).mono ?_); rintro e w3 ⟨A3, c3, rfl, hn, hb⟩; have HN3 := Hd.mk hn; clear hn; have HC' : Hd (Below W1.heap.size W1 _) := ⟨bel_then (by repeat (first | exact HC.out | refine below_drewN ?_ _ | refine below_drew ?_)) hb⟩; clear HC; have HC := HC'; clear HC'; replace x0 := (HX.out.to HC.out).c0; replace x1 := (HX.out.to HC.out).c1; clear hb)
            | ((go_at_call 34); (with_reducible refine (HO1.out A2 c2 _ (bel_then HW.out (bel_then HB.out (by repeat (first | exact HC.out | refine below_drewN ?_ _ | refine below_drew ?_)))) HN2.out).mono ?_); rintro e w4 ⟨rfl, hb⟩; have HC' : Hd (Below W1.heap.size W1 _) := ⟨bel_then (by repeat (first | exact HC.out | refine below_drewN ?_ _ | refine below_drew ?_)) hb⟩; clear HC; have HC := HC'; clear HC'; replace x0 := (HX.out.to HC.out).c0; replace x1 := (HX.out.to HC.out).c1; clear hb)
            | ((go_at_call 34); (with_reducible refine (HO2.out A3 c3 _ (bel_then HW.out (bel_then HB.out (by repeat (first | exact HC.out | refine below_drewN ?_ _ | refine below_drew ?_)))) HN3.out).mono ?_); rintro e w4 ⟨rfl, hb⟩; have HC' : Hd (Below W1.heap.size W1 _) := ⟨bel_then (by repeat (first | exact HC.out | refine below_drewN ?_ _ | refine below_drew ?_)) hb⟩; clear HC; have HC := HC'; clear HC'; replace x0 := (HX.out.to HC.out).c0; replace x1 := (HX.out.to HC.out).c1; clear hb))
          all_goals
            go_wp2_with fail
            go_meet
            exact ⟨by rw [HBB.out, HD.out], by first | exact HC.out | exact below_drew HC.out⟩
    case rest => as_aux_lemma =>
      obtain ⟨rfl, hb⟩ := hcut
      have HB' : Hd (Below W0.heap.size W0 _) := ⟨bel_then (by repeat (first | exact HB.out | exact Below.refl _ _ | refine below_alloc ?_ _ | refine below_drewN ?_ _ | refine below_drew ?_ | refine below_set ?_ (by first | exact Nat.le_refl _ | omega | (simp; done) | (simp; omega)) _)) hb⟩; clear HB; have HB := HB'; clear HB' hb; replace q0 := (Q0.out.to HB.out).c0; replace q1 := (Q0.out.to HB.out).c1
      by_cases hi : inInt z
      · have hbf : bb = false := by rw [HBB.out]; exact decide_eq_false (fun h => by have h2 := HIN.out.1 hi; omega)
        subst hbf
        have HI := Hd.mk (HR1.out hi)
        have hn2 : n ≤ 2 := by rw [← HLN.out]; exact ln_two hi.1 hi.2
        clear HIN HO1 HO2 HW1 HW2 HX
        go_wp2_with fail
        go_loop [5, 26] (fun s5 s26 => ∃ k : Nat, k ≤ n ∧ s26 = .int .i64 (k : Int) ∧ s5 = .int .u64 ((Go.Proofs.Ytcjcpfafalkceaa.val (xs.take k) : Nat) : Int)) (fun _ s => n - (intOf s).toNat)
        case atStart => exact ⟨0, Nat.zero_le _, rfl, rfl⟩
        case round =>
          obtain ⟨k, hk, rfl, rfl⟩ := hrel
          by_cases hkn : k < n
          · obtain ⟨ad, rfl, hcell⟩ := (HRN.out.to (bel_then HW.out HB.out)).at_ (k := k) (by have := HLEN.out; omega)
            obtain ⟨y, hy⟩ : ∃ y, y = xs.getD k 0 := ⟨_, rfl⟩
            have hyl : y < 4294967296 := by rw [hy]; exact dg_get HDG.out k
            have hvt := val_take_next xs k
            rw [← hy] at hcell hvt
            have HVT := Hd.mk hvt
            clear hy hvt
            rcases k with _ | k
            · rw [Addr.add_zero'] at hcell
              go_wp2_with fail
              go_round
              case rel =>
                refine ⟨1, by omega, rfl, ?_⟩
                show Value.int _ (bits .or .u64 0 (y : Int)) = _
                rw [or_words0 y hyl, HVT.out]
                simp [Go.Proofs.Ytcjcpfafalkceaa.val]
              case measure => simp [intOf]; omega
            · have hk0 : k = 0 := by omega
              subst hk0
              simp only [Addr.add_succ', Nat.zero_add] at hcell
              have hvl : Go.Proofs.Ytcjcpfafalkceaa.val (xs.take 1) < 4294967296 := by
                have h1 := val_lt (dg_take HDG.out 1)
                have h2 : B ^ (xs.take 1).length ≤ B ^ 1 := Nat.pow_le_pow_right B_pos (by rw [List.length_take]; omega)
                have h3 : B ^ 1 = 4294967296 := by decide
                omega
              go_wp2_with fail
              go_round
              case rel =>
                refine ⟨2, by omega, rfl, ?_⟩
                rw [or_words _ y hvl hyl, HVT.out]
                rfl
              case measure => simp [intOf]; omega
          · have hke : k = n := by omega
            subst hke
            have hv2 : Go.Proofs.Ytcjcpfafalkceaa.val (xs.take k) = z.natAbs := by rw [List.take_of_length_le (Nat.le_of_eq HLEN.out.symm)]; exact HVAL.out
            rw [hv2]
            obtain ⟨q, hq⟩ : ∃ q, q = z.natAbs := ⟨_, rfl⟩
            rw [← hq]
            clear hv2
            have HRES1 : Hd (b = true → wrap64 (IntKind.u64.wrap (-(q : Int))) = z) := ⟨fun hbt => by
              have hb := HNEG.out
              rw [hbt] at hb
              have hz0 : z < 0 := by simpa using hb.symm
              unfold inInt at hi
              rw [IntKind.wrap_u64]
              unfold wrap64
              omega⟩
            have HRES0 : Hd (b = false → (q : Int) = z) := ⟨fun hbt => by
              have hb := HNEG.out
              rw [hbt] at hb
              have hz0 : ¬ z < 0 := by simpa using hb.symm
              omega⟩
            have hqw : (q : Int) ≤ 9223372036854775808 := by unfold inInt at hi; omega
            have HQ : Hd (b = false → (q : Int) ≤ 9223372036854775807) := ⟨fun hbf => by have hb := HNEG.out; rw [hbf] at hb; have : ¬ z < 0 := by simpa using hb.symm
                                                                                         unfold inInt at hi; omega⟩
            clear hi hq
            rcases b with _ | _
            · have hq2 := HQ.out rfl
              have HZ := Hd.mk (HRES0.out rfl)
              clear HRES0 HRES1 HQ
              go_wp2_with fail
              go_ret2
              refine ⟨?_, bel_then HW.out HB.out⟩
              rw [HI.out.1, HI.out.2]
              first | rfl | (rw [← HZ.out]; rfl)
            · have HZ := Hd.mk (HRES1.out rfl)
              clear HRES0 HRES1 HQ
              go_wp2_with fail
              go_ret2
              refine ⟨?_, bel_then HW.out HB.out⟩
              rw [HI.out.1, HI.out.2]
              first | rfl | (rw [HZ.out]; rfl)
      · have hbt : bb = true := by
          rw [HBB.out]
          apply decide_eq_true
          by_cases h1 : v1 < 0
          · exact .inl h1
          · exact .inr (Decidable.byContradiction fun h2 => hi (HIN.out.2 (by omega)))
        subst hbt
        have HI := Hd.mk (HR2.out hi)
        clear HIN hi
        go_wp2_with fail
        go_ret2
        exact ⟨by rw [HI.out.1, HI.out.2]; rfl, bel_then HW.out HB.out⟩
  · have hno : x.ok = false := by simpa using hok
    rw [hno] at HV
    rw [if_neg (fun h => hok h.1), if_neg hok]
    unfold Raw.v at HV ⊢
    clear hx hok hno
    go_enter Try.func19, Try.ntmps19
    go_wp2_with fail
    obtain ⟨W0, hW0⟩ : ∃ W : World, W = w.alloc (.cells #[.bool x.neg, .slice x.A x.xs.length x.c] 24) := ⟨_, rfl⟩
    rw [← hW0]
    have HSZ : Hd (w.heap.size + 1 = W0.heap.size) := ⟨by rw [hW0]; simp⟩
    obtain ⟨hB0, hBW⟩ := boxes1 hW0
    have q0 := hB0.c0
    have q1 := hB0.c1
    have Q0 := Hd.mk hB0
    have HW := Hd.mk hBW
    have HB : Hd (Below W0.heap.size W0 W0) := ⟨Below.refl _ _⟩
    clear hB0 hBW hW0
    refine (HV.out _ HW.out).mono ?_
    rintro e w1 ⟨rfl, hb1⟩
    have HB' : Hd (Below W0.heap.size W0 _) := ⟨bel_then (by repeat (first | exact HB.out | exact Below.refl _ _ | refine below_alloc ?_ _ | refine below_drewN ?_ _ | refine below_drew ?_ | refine below_set ?_ (by first | exact Nat.le_refl _ | omega | (simp; done) | (simp; omega)) _)) hb1⟩; clear HB; have HB := HB'; clear HB' hb1; replace q0 := (Q0.out.to HB.out).c0; replace q1 := (Q0.out.to HB.out).c1
    go_wp2_with fail
    go_ret2
    exact ⟨rfl, bel_then HW.out HB.out⟩
end Go.Proofs.Ytcjcpfafalkceaa
