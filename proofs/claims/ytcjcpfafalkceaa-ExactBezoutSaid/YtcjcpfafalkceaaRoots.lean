/- The law ExactRoots: the k-th power of Root is at most the number, that of Root plus 1 is greater. -/
import Derived.Test.YtcjcpfafalkceaaPB
import Derived.Test.YtcjcpfafalkceaaRH
import Derived.Test.YtcjcpfafalkceaaRJ
import Derived.Test.YtcjcpfafalkceaaRF
set_option linter.unusedVariables false
set_option linter.unusedSimpArgs false
namespace Go.Proofs.Ytcjcpfafalkceaa
open Go.RowKit
theorem rvalid_num (z : Int) (A : Option Addr) (c : Nat) (w : World) (h : NN w A c z.natAbs) (hl : ln z.natAbs ≤ 256) :
    Calls Try.prog 22 #[.agg #[.bool (decide (z < 0)), .slice A (ln z.natAbs) c]] w fun e w' => e = .returned (.bool true) ∧ Below w.heap.size w w' := by
  have hok : Raw.ok ⟨decide (z < 0), A, c, dig z.natAbs⟩ = true := by
    unfold Raw.ok
    simp only [Bool.and_eq_true, decide_eq_true_eq, Bool.not_eq_true', Bool.and_eq_false_iff, decide_eq_false_iff_not]
    refine ⟨⟨hl, ?_⟩, ?_⟩
    · by_cases h0 : (dig z.natAbs).length = 0
      · right
        have := ln_eq_zero.1 h0
        omega
      · exact .inl h0
    · by_cases h0 : 0 < (dig z.natAbs).length
      · right
        exact dig_last z.natAbs _ (by omega)
      · exact .inl h0
  have := rvalid_calls ⟨decide (z < 0), A, c, dig z.natAbs⟩ w ⟨h.1, dg_dig _, h.2.1, h.2.2⟩
  rw [hok] at this
  exact this
theorem zpow_mono {r j K N : Nat} (hj : j ≤ K) (h : r ^ K ≤ N) (h0 : 0 < j) : zpow (r : Int) j ≤ (N : Int) := by
  rw [zpow_nat]
  have : r ^ j ≤ N := by
    rcases Nat.eq_zero_or_pos r with h1 | h1
    · subst h1; rw [Nat.zero_pow h0]; omega
    · exact Nat.le_trans (Nat.pow_le_pow_right h1 hj) h
  omega
theorem zpow_ln {z : Int} {j b m : Nat} (h : ln (zpow z j).natAbs ≤ j * m + 1) (hz : ln z.natAbs ≤ m) : ln (zpow z j * z).natAbs ≤ (j + 1) * m + 1 := by
  rw [Int.natAbs_mul, Nat.succ_mul]
  exact Nat.le_trans (ln_mul _ _) (by omega)
theorem whole_one (w : World) : Calls Try.prog 24 #[.int .i64 1] w (Got w (isZ 1).p) := (Whole_calls 1 w (by omega) (by omega)).mono fun e w' h => h.got
set_option maxHeartbeats 2000000 in
set_option maxRecDepth 100000 in
theorem ExactRoots_walk (x : Raw) (k : Int) (w : World) (hx : x.at_ w) (hk : (Lit.int .i64 k).wf = true) :
    Calls Try.prog 6 #[x.v, .int .i64 k] w fun e w' => e = .returned (.bool true) ∧ Below w.heap.size w w' := by
  have HR := Hd.mk (fun W (hW : Below w.heap.size w W) => Root_calls x k W (Raw.at_to hx hW))
  have HV := Hd.mk (fun W (hW : Below w.heap.size w W) => rvalid_calls x W (Raw.at_to hx hW))
  unfold rootz roote at HR
  clear hk
  by_cases hall : x.ok = true ∧ x.neg = false ∧ 1 ≤ k ∧ k ≤ 64
  · rw [if_pos hall, if_pos hall] at HR
    obtain ⟨hok, hng, hk1, hk2⟩ := hall
    rw [hok] at HV
    have hl := Raw.ok_len hok hx.2.1
    have hN := Raw.nn hok hx
    have hln := (Raw.num hok hx.2.1).2
    obtain ⟨K, hK⟩ : ∃ K : Nat, k = (K : Int) := ⟨k.toNat, by omega⟩
    subst hK
    rw [Int.toNat_natCast] at HR
    have hK0 : 0 < K := by omega
    obtain ⟨N, hNN⟩ : ∃ N, N = x.val.natAbs := ⟨_, rfl⟩
    rw [← hNN] at hl hN hln HR
    have HN := Hd.mk hN
    have HRS := Hd.mk (iroot_spec (n := N) (k := K) hK0)
    unfold Raw.v at HR HV ⊢
    obtain ⟨neg, A1, c1, xs⟩ := x
    simp only at HR HV hng HN hln ⊢
    subst hng
    rw [← hln] at HR HV ⊢
    obtain ⟨r, hr⟩ : ∃ r, r = iroot N K := ⟨_, rfl⟩
    rw [← hr] at HR HRS
    have hrN : r ≤ N := by
      refine Nat.le_trans ?_ HRS.out.1
      exact Nat.le_self_pow (by omega) r
    have hlr : ln r ≤ 256 := Nat.le_trans (ln_mono hrN) hl
    clear hx hok hNN hN hln hr
    obtain ⟨n1, hn1⟩ : ∃ n, n = ln N := ⟨_, rfl⟩
    have HLN := Hd.mk hn1
    rw [← hn1] at HR HV hl ⊢
    clear hn1
    go_enter Try.func6, Try.ntmps6
    go_wp2_with fail
    obtain ⟨W0, hW0⟩ : ∃ W : World, W = w.alloc (.cells #[.bool false, .slice A1 n1 c1] 24) := ⟨_, rfl⟩
    rw [← hW0]
    have HSZ : Hd (w.heap.size + 1 = W0.heap.size) := ⟨by rw [hW0]; simp⟩
    obtain ⟨hB0, hBW⟩ := boxes1 hW0
    have q0 := hB0.c0
    have q1 := hB0.c1
    have Q0 := Hd.mk hB0
    have HW := Hd.mk hBW
    have HB : Hd (Below W0.heap.size W0 W0) := ⟨Below.refl _ _⟩
    clear hB0 hBW hW0
    refine (HR.out _ (bel_then HW.out (by repeat (first | exact HB.out | exact Below.refl _ _ | refine below_alloc ?_ _ | refine below_drewN ?_ _ | refine below_drew ?_ | refine below_set ?_ (by first | exact Nat.le_refl _ | omega | (simp; done) | (simp; omega)) _)))).mono ?_
    rintro e w1 ⟨A2, c2, rfl, hn2, hb1⟩
    have HN2 := Hd.mk hn2
    clear hn2
    have HB' : Hd (Below W0.heap.size W0 _) := ⟨bel_then (by repeat (first | exact HB.out | exact Below.refl _ _ | refine below_alloc ?_ _ | refine below_drewN ?_ _ | refine below_drew ?_ | refine below_set ?_ (by first | exact Nat.le_refl _ | omega | (simp; done) | (simp; omega)) _)) hb1⟩; clear HB; have HB := HB'; clear HB' hb1; replace q0 := (Q0.out.to HB.out).c0; replace q1 := (Q0.out.to HB.out).c1
    have hz1 : w.heap.size < w1.heap.size := by have h1 := HB.out.size; have h2 := HSZ.out; omega
    rw [show decide ((r : Int) < 0) = false from decide_eq_false (by omega), Int.natAbs_natCast]
    rw [Int.natAbs_natCast] at HN2
    go_wp2_with fail
    obtain ⟨W1, hW1⟩ : ∃ W : World, W = w1.alloc (.cells #[.bool false, .slice A2 (ln r) c2] 24) := ⟨_, rfl⟩
    rw [← hW1]
    have HZ5 : Hd (Blk W1 w1.heap.size 24 [.bool false, .slice A2 (ln r) c2]) := ⟨by rw [hW1]; exact heap_alloc_new _ _⟩
    have hbw : Below w1.heap.size w1 W1 := by rw [hW1]; exact below_alloc (Below.refl _ _) _
    replace HN2 := Hd.mk (HN2.out.to hbw)
    have HB' : Hd (Below W0.heap.size W0 _) := ⟨bel_then (by repeat (first | exact HB.out | exact Below.refl _ _ | refine below_alloc ?_ _ | refine below_drewN ?_ _ | refine below_drew ?_ | refine below_set ?_ (by first | exact Nat.le_refl _ | omega | (simp; done) | (simp; omega)) _)) hbw⟩; clear HB; have HB := HB'; clear HB' hbw; replace q0 := (Q0.out.to HB.out).c0; replace q1 := (Q0.out.to HB.out).c1
    clear hW1 hz1
    refine (HV.out _ (bel_then HW.out HB.out)).mono ?_
    rintro e w2 ⟨rfl, hb2⟩
    replace HN2 := Hd.mk (HN2.out.to hb2)
    replace HZ5 := Hd.mk (HZ5.out.to hb2)
    have hz5 : w1.heap.size < w2.heap.size := HZ5.out.lt
    have HB' : Hd (Below W0.heap.size W0 _) := ⟨bel_then (by repeat (first | exact HB.out | exact Below.refl _ _ | refine below_alloc ?_ _ | refine below_drewN ?_ _ | refine below_drew ?_ | refine below_set ?_ (by first | exact Nat.le_refl _ | omega | (simp; done) | (simp; omega)) _)) hb2⟩; clear HB; have HB := HB'; clear HB' hb2; replace q0 := (Q0.out.to HB.out).c0; replace q1 := (Q0.out.to HB.out).c1
    have x0 := HZ5.out.c0
    have x1 := HZ5.out.c1
    have HV2 := Hd.mk (rvalid_num (r : Int) A2 c2 w2 (by rw [Int.natAbs_natCast]; exact HN2.out) (by rw [Int.natAbs_natCast]; exact hlr))
    rw [show decide ((r : Int) < 0) = false from decide_eq_false (by omega), Int.natAbs_natCast] at HV2
    go_wp2_with fail
    refine HV2.out.mono ?_
    rintro e w3 ⟨rfl, hb3⟩
    replace HN2 := Hd.mk (HN2.out.to hb3)
    replace HZ5 := Hd.mk (HZ5.out.to hb3)
    have HB' : Hd (Below W0.heap.size W0 _) := ⟨bel_then (by repeat (first | exact HB.out | exact Below.refl _ _ | refine below_alloc ?_ _ | refine below_drewN ?_ _ | refine below_drew ?_ | refine below_set ?_ (by first | exact Nat.le_refl _ | omega | (simp; done) | (simp; omega)) _)) hb3⟩; clear HB; have HB := HB'; clear HB' hb3; replace q0 := (Q0.out.to HB.out).c0; replace q1 := (Q0.out.to HB.out).c1
    replace x0 := HZ5.out.c0
    replace x1 := HZ5.out.c1
    go_wp2_with fail
    refine (whole_one _).mono ?_
    rintro e w4 ⟨v4, rfl, hb4, A4, c4, rfl, hn4⟩
    go_wp2_with fail
    refine (whole_one _).mono ?_
    rintro e w5 ⟨v5, rfl, hb5, A5, c5, rfl, hn5⟩
    go_upto_region 7 with fail
    obtain ⟨W6, hW6⟩ : ∃ W : World, W = (w5.alloc (.cells #[.bool false, .slice A4 (ln 1) c4] 38)).alloc (.cells #[.bool false, .slice A5 (ln 1) c5] 38) := ⟨_, rfl⟩
    rw [← hW6]
    obtain ⟨hX, hY, hbw⟩ := boxes2 hW6
    have HG7 : Hd (HZ W6 w5.heap.size 38 1) := ⟨A4, c4, hX, (NN.to hn4 hb5).to hbw⟩
    have HG8 : Hd (HZ W6 (w5.heap.size + 1) 38 1) := ⟨A5, c5, hY, NN.to hn5 hbw⟩
    have HB5 : Hd (Below W0.heap.size W0 w5) := ⟨bel_then HB.out (bel_then hb4 hb5)⟩
    have HZA : Hd (HZ w5 w.heap.size 24 (N : Int)) := ⟨A1, c1, by
      have := Q0.out.to HB5.out
      rw [HLN.out] at this
      exact this, HN.out.to (bel_then HW.out HB5.out)⟩
    have HZR : Hd (HZ w5 w1.heap.size 24 (r : Int)) := ⟨A2, c2, HZ5.out.to (bel_then hb4 hb5), HN2.out.to (bel_then hb4 hb5)⟩
    have HB6 := Hd.mk hbw
    obtain ⟨g5, hg5⟩ : ∃ g, g = w1.heap.size := ⟨_, rfl⟩
    rw [← hg5] at HZR ⊢
    obtain ⟨g7, hg7⟩ : ∃ g, g = w5.heap.size := ⟨_, rfl⟩
    rw [← hg7] at HG7 HG8 HB6 ⊢
    clear hW6 hX hY hbw hn4 hn5 hb4 hb5 q0 q1 x0 x1 HB HZ5 HN2 hg5
    have HGE : Hd (g7 = w5.heap.size) := ⟨hg7⟩
    clear hg7 hz5
    have hlr1 : ln ((r : Int) + 1).natAbs ≤ 257 := by
      have : ((r : Int) + 1).natAbs = r + 1 := by omega
      rw [this]
      have h1 := ln_add r 1
      have h2 := ln_word (d := 1) (by omega)
      omega
    have hlr0 : ln (r : Int).natAbs ≤ 257 := by rw [Int.natAbs_natCast]; omega
    have hKi : ¬ (K : Int) < 1 := by omega
    go_wp2_with fail
    go_loopw [49] (fun s49 wr => ∃ j : Nat, s49 = .int .i64 (j : Int) ∧ j ≤ K ∧ HZ wr g7 38 (zpow r j) ∧ HZ wr (g7 + 1) 38 (zpow ((r : Int) + 1) j) ∧ ln (zpow r j).natAbs ≤ j * 257 + 1 ∧ ln (zpow ((r : Int) + 1) j).natAbs ≤ j * 257 + 1 ∧ Below w5.heap.size w5 wr) (fun s49 _ => K - (intOf s49).toNat)
    case atStart => exact ⟨0, rfl, Nat.zero_le _, by rw [zpow_zero]; exact HG7.out, by rw [zpow_zero]; exact HG8.out, by rw [zpow_zero]; exact ln_word (d := 1) (by omega), by rw [zpow_zero]; exact ln_word (d := 1) (by omega), by rw [← HGE.out]; exact HB6.out⟩
    case round =>
      obtain ⟨j, rfl, hj, hz7, hz8, hl7, hl8, hbel⟩ := hrel
      have H7 := Hd.mk hz7
      have H8 := Hd.mk hz8
      have HB := Hd.mk hbel
      clear hz7 hz8 hbel HG7 HG8 HB6
      by_cases hlt : j < K
      · have hlt' : (j : Int) < (K : Int) := by omega
        have hjl : j * 257 + 1 ≤ 20000 := by omega
        have hn7 := zpow_ln (b := 0) hl7 hlr0
        have hn8 := zpow_ln (b := 0) hl8 hlr1
        have HM := Hd.mk (zpow_mono (r := r) (j := j + 1) (by omega) HRS.out.1 (by omega))
        go_wp2_with fail
        refine wp_region_vs 10 [51, 52, 53, 54, 55, 56, 57, 58, 59, 60] [] [] 38 [.bool false, .slice none 0 0] [isZ (zpow r j), isZ r, isZ r, isZ (zpow r j * r), isZ (zpow ((r : Int) + 1) j), isZ r, isZ r, isZ 1, isZ ((r : Int) + 1), isZ (zpow ((r : Int) + 1) j * ((r : Int) + 1))] (by kernel_rfl) (by kernel_rfl) (by kernel_rfl) (by rfl) alloc_Z (fun d v c a w h => by cases d <;> exact h) ?_ ?_
        · intro i hi hA a wx hb hs hd
          have HR5 := HZR.out.to (bel_then HB.out hb)
          match i, hi, hA with
          | 0, _, _ => exact op_loadR rfl rfl (hs 7 rfl) (H7.out.to hb)
          | 1, _, _ => exact op_loadA rfl rfl (hs 5 rfl) HR5
          | 2, _, _ => exact op_call1 rfl rfl Try.call32 (z1_same (fun A1 c1 => rOf_calls _ _ _ _ _) (hd 1 rfl))
          | 3, _, _ => exact op_call2 rfl rfl Try.call31 (z2 (fun A1 c1 A2 c2 h1 h2 => rTimes_calls (zpow r j) r A1 c1 A2 c2 _ h1 h2 (by omega) (by omega)) (fun e w' h => h.got) (hd 0 rfl) (hd 2 rfl))
          | 4, _, _ => exact op_loadR rfl rfl (hs 8 rfl) (H8.out.to hb)
          | 5, _, _ => exact op_loadA rfl rfl (hs 5 rfl) HR5
          | 6, _, _ => exact op_call1 rfl rfl Try.call32 (z1_same (fun A1 c1 => rOf_calls _ _ _ _ _) (hd 5 rfl))
          | 7, _, _ => exact op_call1 rfl rfl Try.call24 (whole_one wx)
          | 8, _, _ => exact op_call2 rfl rfl Try.call33 (z2 (fun A1 c1 A2 c2 h1 h2 => rPlus_calls r 1 A1 c1 A2 c2 _ h1 h2 (by omega) (Nat.le_trans (ln_word (d := 1) (by omega)) (by omega))) (fun e w' h => h.got) (hd 6 rfl) (hd 7 rfl))
          | 9, _, _ => exact op_call2 rfl rfl Try.call31 (z2 (fun A1 c1 A2 c2 h1 h2 => rTimes_calls (zpow ((r : Int) + 1) j) ((r : Int) + 1) A1 c1 A2 c2 _ h1 h2 (by omega) (by omega)) (fun e w' h => h.got) (hd 4 rfl) (hd 8 rfl))
          | i + 10, h, _ => omega
        · intro vs wx hb hv hal hne
          obtain ⟨A6, c6, e6, hn6⟩ : (isZ (zpow r j * r)).p (vs 54) wx := hv 3 (by decide) rfl
          obtain ⟨A7, c7, e7, hn7b⟩ : (isZ (zpow ((r : Int) + 1) j * ((r : Int) + 1))).p (vs 60) wx := hv 9 (by decide) rfl
          rw [← zpow_succ] at e6 e7 hn6 hn7b
          rw [← zpow_succ] at hn7 hn8
          simp only [putAll, List.foldl_cons, List.foldl_nil, Act.put, List.setIfInBounds_toArray, List.set_cons_succ, List.set_cons_zero, List.drop_succ_cons, List.drop_zero, e6, e7]
          generalize vs 51 = s51
          generalize vs 52 = s52
          generalize vs 53 = s53
          generalize vs 55 = s55
          generalize vs 56 = s56
          generalize vs 57 = s57
          generalize vs 58 = s58
          generalize vs 59 = s59
          have J7 : Hd (HB2 wx g7 38) := ⟨(H7.out.to hb).any⟩
          have J8 : Hd (HB2 wx (g7 + 1) 38) := ⟨(H8.out.to hb).any⟩
          have HBX : Hd (Below w5.heap.size w5 wx) := ⟨bel_then HB.out hb⟩
          have M6 := Hd.mk hn6
          have M7 := Hd.mk hn7b
          clear hv hal hne e6 e7 hb HB H7 H8 hn6 hn7b
          have HB := HBX
          obtain ⟨p1, p2, p3, p4, hp⟩ := J7.out
          obtain ⟨p5, p6, p7, p8, hp'⟩ := J8.out
          have x0 := hp.c0
          have x1 := hp.c1
          have x2 := hp.f0
          have x3 := hp.f1
          have y0 := hp'.c0
          have y1 := hp'.c1
          have y2 := hp'.f0
          have y3 := hp'.f1
          clear hp hp' HBX
          obtain ⟨zA, hzA⟩ : ∃ z, z = zpow (r : Int) (j + 1) := ⟨_, rfl⟩
          obtain ⟨zB, hzB⟩ : ∃ z, z = zpow ((r : Int) + 1) (j + 1) := ⟨_, rfl⟩
          have HZA1 := Hd.mk hzA
          have HZB1 := Hd.mk hzB
          rw [← hzA] at M6 hn7 HM ⊢
          rw [← hzB] at M7 hn8 ⊢
          clear hzA hzB
          go_upto_region 10 with fail
          obtain ⟨WA, hWA⟩ : ∃ W, W = put2 wx g7 (.bool (decide (zA < 0))) (.slice A6 (ln zA.natAbs) c6) := ⟨_, rfl⟩
          obtain ⟨WB, hWB⟩ : ∃ W, W = put2 WA (g7 + 1) (.bool (decide (zB < 0))) (.slice A7 (ln zB.natAbs) c7) := ⟨_, rfl⟩
          have hgl : w5.heap.size ≤ g7 := by have := HGE.out; omega
          have K7 : HZ WA g7 38 zA := by rw [hWA]; exact HZ.set J7.out M6.out
          have K8 : HB2 WA (g7 + 1) 38 := by rw [hWA]; exact J8.out.put (by omega) _ _
          have M8 : NN WA A7 c7 zB.natAbs := by rw [hWA]; exact M7.out.put J7.out _ _
          have HBA : Below w5.heap.size w5 WA := by rw [hWA]; exact below_put HB.out hgl _ _
          have L7 : Hd (HZ WB g7 38 zA) := ⟨by rw [hWB]; exact K7.put K8 (by omega) _ _⟩
          have L8 : Hd (HZ WB (g7 + 1) 38 zB) := ⟨by rw [hWB]; exact HZ.set K8 M8⟩
          have HBB : Hd (Below w5.heap.size w5 WB) := ⟨by rw [hWB]; exact below_put HBA (by omega) _ _⟩
          unfold put2 at hWA hWB
          rw [hWA] at hWB
          rw [← hWB]
          clear hWA hWB K7 K8 M8 HBA J7 J8 M6 M7 HB x0 x1 x2 x3 y0 y1 y2 y3 hgl
          have hsg : decide ((0 : Int) < sgnv (zA - (N : Int))) = false := decide_eq_false (by
            have := HM.out
            unfold sgnv
            split
            · omega
            · split <;> omega)
          refine wp_region_vs 5 [61, 62, 63, 64, 65] [4] [] 38 [.bool false, .slice none 0 0] [isZ zA, isZ N, isZ N, isV (.int .i64 (sgnv (zA - N))), isV (.bool (decide ((0 : Int) < sgnv (zA - N))))] (by kernel_rfl) (by kernel_rfl) (by kernel_rfl) (by rfl) alloc_Z (fun d v c a w h => by cases d <;> exact h) ?_ ?_
          · intro i hi hA a wy hb hs hd
            match i, hi, hA with
            | 0, _, _ => exact op_loadR rfl rfl (hs 7 rfl) (L7.out.to hb)
            | 1, _, _ => exact op_loadA rfl rfl (hs 2 rfl) (HZA.out.to (bel_then HBB.out hb))
            | 2, _, _ => exact op_call1 rfl rfl Try.call32 (z1_same (fun A1 c1 => rOf_calls _ _ _ _ _) (hd 1 rfl))
            | 3, _, _ => exact op_call2 rfl rfl Try.call34 (z2 (fun A1 c1 A2 c2 h1 h2 => rOrder_calls zA N A1 c1 A2 c2 _ h1 h2 (by omega) (by rw [Int.natAbs_natCast]; have := HLN.out; omega)) (fun e w' h => same_got h) (hd 0 rfl) (hd 2 rfl))
            | 4, _, _ => exact ⟨_, op_gtr0 rfl (hd 3 rfl), rfl⟩
            | i + 5, h, _ => omega
          · intro vs wy hb hv hal hne
            have e5 : vs 65 = .bool (decide ((0 : Int) < sgnv (zA - N))) := hv 4 (by decide) rfl
            rw [hsg] at e5
            simp only [putAll, List.foldl_cons, List.foldl_nil, Act.put, List.setIfInBounds_toArray, List.set_cons_succ, List.set_cons_zero, List.drop_succ_cons, List.drop_zero, e5]
            generalize vs 61 = s61
            generalize vs 62 = s62
            generalize vs 63 = s63
            generalize vs 64 = s64
            have F7 := Hd.mk (L7.out.to hb)
            have F8 := Hd.mk (L8.out.to hb)
            have HBZ : Hd (Below w5.heap.size w5 wy) := ⟨bel_then HBB.out hb⟩
            clear hv hal hne e5 hb hsg L7 L8 HBB
            go_wp2_with fail
            go_roundw
            case rel => exact ⟨j + 1, by go_num, by omega, by rw [← HZA1.out]; exact F7.out, by rw [← HZB1.out]; exact F8.out, by rw [← HZA1.out]; exact hn7, by rw [← HZB1.out]; exact hn8, HBZ.out⟩
            case measure => simp [intOf]; omega
      · have hje : j = K := by omega
        subst hje
        have hsg : decide ((0 : Int) < sgnv (zpow ((r : Int) + 1) j - (N : Int))) = true := decide_eq_true (by
          have h1 := HRS.out.2
          have h2 := zpow_nat (r + 1) j
          rw [show (((r + 1 : Nat)) : Int) = (r : Int) + 1 from by omega] at h2
          rw [h2]
          unfold sgnv
          rw [if_neg (by omega), if_neg (by omega)]
          omega)
        clear hlt hl7 H7
        have hl8' : ln (zpow ((r : Int) + 1) j).natAbs ≤ 1073741824 := by omega
        obtain ⟨zB, hzB⟩ : ∃ z, z = zpow ((r : Int) + 1) j := ⟨_, rfl⟩
        rw [← hzB] at hsg hl8' H8
        clear hzB hl8
        go_wp2_with fail
        refine wp_region_vs 6 [67, 68, 69, 70, 71, 72] [4, 5] [] 38 [.bool false, .slice none 0 0] [isZ zB, isZ N, isZ N, isV (.int .i64 (sgnv (zB - N))), isV (.bool true), isV (.bool true)] (by kernel_rfl) (by kernel_rfl) (by kernel_rfl) (by rfl) alloc_Z (fun d v c a w h => by cases d <;> exact h) ?_ ?_
        · intro i hi hA a wy hb hs hd
          match i, hi, hA with
          | 0, _, _ => exact op_loadR rfl rfl (hs 8 rfl) (H8.out.to hb)
          | 1, _, _ => exact op_loadA rfl rfl (hs 2 rfl) (HZA.out.to (bel_then HB.out hb))
          | 2, _, _ => exact op_call1 rfl rfl Try.call32 (z1_same (fun A1 c1 => rOf_calls _ _ _ _ _) (hd 1 rfl))
          | 3, _, _ => exact op_call2 rfl rfl Try.call34 (z2 (fun A1 c1 A2 c2 h1 h2 => rOrder_calls zB N A1 c1 A2 c2 _ h1 h2 hl8' (by rw [Int.natAbs_natCast]; have := HLN.out; omega)) (fun e w' h => same_got h) (hd 0 rfl) (hd 2 rfl))
          | 4, _, _ => exact ⟨_, op_gtr0 rfl (hd 3 rfl), by rw [hsg]; rfl⟩
          | 5, _, _ => exact ⟨_, op_move rfl (hd 4 rfl), rfl⟩
          | i + 6, h, _ => omega
        · intro vs wy hb hv hal hne
          have e4 : vs 71 = .bool true := hv 4 (by decide) rfl
          have e5 : vs 72 = .bool true := hv 5 (by decide) rfl
          simp only [putAll, List.foldl_cons, List.foldl_nil, Act.put, List.setIfInBounds_toArray, List.set_cons_succ, List.set_cons_zero, List.drop_succ_cons, List.drop_zero, e4, e5]
          generalize vs 67 = s67
          generalize vs 68 = s68
          generalize vs 69 = s69
          generalize vs 70 = s70
          have HBZ : Hd (Below w5.heap.size w5 wy) := ⟨bel_then HB.out hb⟩
          clear hv hal hne e4 e5 hb hsg
          go_wp2_with fail
          refine (awake_calls _).mono ?_
          rintro e w9 ⟨rfl, hb9⟩
          have HB9 : Hd (Below w5.heap.size w5 w9) := ⟨bel_then HBZ.out hb9⟩
          clear hb9
          go_wp2_with fail
          go_ret
          exact ⟨rfl, bel_then HW.out (bel_then HB5.out HB9.out)⟩
  · rw [if_neg hall, if_neg hall] at HR
    unfold Raw.v at HR HV ⊢
    obtain ⟨neg, A1, c1, xs⟩ := x
    by_cases hok : Raw.ok ⟨neg, A1, c1, xs⟩ = true
    · rw [hok] at HV
      simp only at HR HV hall ⊢
      obtain ⟨n1, hn1⟩ : ∃ n, n = xs.length := ⟨_, rfl⟩
      rw [← hn1] at HR HV ⊢
      clear hn1
      by_cases hng : neg = true
      · subst hng
        clear hall hok hx
        go_enter Try.func6, Try.ntmps6
        go_wp2_with fail
        obtain ⟨W0, hW0⟩ : ∃ W : World, W = w.alloc (.cells #[.bool true, .slice A1 n1 c1] 24) := ⟨_, rfl⟩
        rw [← hW0]
        have HSZ : Hd (w.heap.size + 1 = W0.heap.size) := ⟨by rw [hW0]; simp⟩
        obtain ⟨hB0, hBW⟩ := boxes1 hW0
        have q0 := hB0.c0
        have q1 := hB0.c1
        have Q0 := Hd.mk hB0
        have HW := Hd.mk hBW
        have HB : Hd (Below W0.heap.size W0 W0) := ⟨Below.refl _ _⟩
        clear hB0 hBW hW0
        refine (HR.out _ (bel_then HW.out (by repeat (first | exact HB.out | exact Below.refl _ _ | refine below_alloc ?_ _ | refine below_drewN ?_ _ | refine below_drew ?_ | refine below_set ?_ (by first | exact Nat.le_refl _ | omega | (simp; done) | (simp; omega)) _)))).mono ?_
        rintro e w1 ⟨A2, c2, rfl, hn2, hb1⟩
        have HN2 := Hd.mk hn2
        clear hn2
        have HB' : Hd (Below W0.heap.size W0 _) := ⟨bel_then (by repeat (first | exact HB.out | exact Below.refl _ _ | refine below_alloc ?_ _ | refine below_drewN ?_ _ | refine below_drew ?_ | refine below_set ?_ (by first | exact Nat.le_refl _ | omega | (simp; done) | (simp; omega)) _)) hb1⟩; clear HB; have HB := HB'; clear HB' hb1; replace q0 := (Q0.out.to HB.out).c0; replace q1 := (Q0.out.to HB.out).c1
        have hz1 : w.heap.size < w1.heap.size := by have h1 := HB.out.size; have h2 := HSZ.out; omega
        go_wp2_with fail
        obtain ⟨W1, hW1⟩ : ∃ W : World, W = w1.alloc (.cells #[.bool false, .slice A2 (ln 0) c2] 24) := ⟨_, rfl⟩
        rw [← hW1]
        have HZ5 : Hd (Blk W1 w1.heap.size 24 [.bool false, .slice A2 (ln 0) c2]) := ⟨by rw [hW1]; exact heap_alloc_new _ _⟩
        have hbw : Below w1.heap.size w1 W1 := by rw [hW1]; exact below_alloc (Below.refl _ _) _
        replace HN2 := Hd.mk (HN2.out.to hbw)
        have HB' : Hd (Below W0.heap.size W0 _) := ⟨bel_then (by repeat (first | exact HB.out | exact Below.refl _ _ | refine below_alloc ?_ _ | refine below_drewN ?_ _ | refine below_drew ?_ | refine below_set ?_ (by first | exact Nat.le_refl _ | omega | (simp; done) | (simp; omega)) _)) hbw⟩; clear HB; have HB := HB'; clear HB' hbw; replace q0 := (Q0.out.to HB.out).c0; replace q1 := (Q0.out.to HB.out).c1
        clear hW1 hz1
        refine (HV.out _ (bel_then HW.out HB.out)).mono ?_
        rintro e w2 ⟨rfl, hb2⟩
        replace HN2 := Hd.mk (HN2.out.to hb2)
        replace HZ5 := Hd.mk (HZ5.out.to hb2)
        have hz5 : w1.heap.size < w2.heap.size := HZ5.out.lt
        have HB' : Hd (Below W0.heap.size W0 _) := ⟨bel_then (by repeat (first | exact HB.out | exact Below.refl _ _ | refine below_alloc ?_ _ | refine below_drewN ?_ _ | refine below_drew ?_ | refine below_set ?_ (by first | exact Nat.le_refl _ | omega | (simp; done) | (simp; omega)) _)) hb2⟩; clear HB; have HB := HB'; clear HB' hb2; replace q0 := (Q0.out.to HB.out).c0; replace q1 := (Q0.out.to HB.out).c1
        go_wp2_with fail
        refine (awake_calls _).mono ?_
        rintro e w3 ⟨rfl, hb3⟩
        have HB' : Hd (Below W0.heap.size W0 _) := ⟨bel_then (by repeat (first | exact HB.out | exact Below.refl _ _ | refine below_alloc ?_ _ | refine below_drewN ?_ _ | refine below_drew ?_ | refine below_set ?_ (by first | exact Nat.le_refl _ | omega | (simp; done) | (simp; omega)) _)) hb3⟩; clear HB; have HB := HB'; clear HB' hb3; replace q0 := (Q0.out.to HB.out).c0; replace q1 := (Q0.out.to HB.out).c1
        go_wp2_with fail
        go_ret
        exact ⟨rfl, bel_then HW.out HB.out⟩
      · have hng : neg = false := by simpa using hng
        subst hng
        by_cases hk1 : k < 1
        · clear hall hok hx
          go_enter Try.func6, Try.ntmps6
          go_wp2_with fail
          obtain ⟨W0, hW0⟩ : ∃ W : World, W = w.alloc (.cells #[.bool false, .slice A1 n1 c1] 24) := ⟨_, rfl⟩
          rw [← hW0]
          have HSZ : Hd (w.heap.size + 1 = W0.heap.size) := ⟨by rw [hW0]; simp⟩
          obtain ⟨hB0, hBW⟩ := boxes1 hW0
          have q0 := hB0.c0
          have q1 := hB0.c1
          have Q0 := Hd.mk hB0
          have HW := Hd.mk hBW
          have HB : Hd (Below W0.heap.size W0 W0) := ⟨Below.refl _ _⟩
          clear hB0 hBW hW0
          refine (HR.out _ (bel_then HW.out (by repeat (first | exact HB.out | exact Below.refl _ _ | refine below_alloc ?_ _ | refine below_drewN ?_ _ | refine below_drew ?_ | refine below_set ?_ (by first | exact Nat.le_refl _ | omega | (simp; done) | (simp; omega)) _)))).mono ?_
          rintro e w1 ⟨A2, c2, rfl, hn2, hb1⟩
          have HN2 := Hd.mk hn2
          clear hn2
          have HB' : Hd (Below W0.heap.size W0 _) := ⟨bel_then (by repeat (first | exact HB.out | exact Below.refl _ _ | refine below_alloc ?_ _ | refine below_drewN ?_ _ | refine below_drew ?_ | refine below_set ?_ (by first | exact Nat.le_refl _ | omega | (simp; done) | (simp; omega)) _)) hb1⟩; clear HB; have HB := HB'; clear HB' hb1; replace q0 := (Q0.out.to HB.out).c0; replace q1 := (Q0.out.to HB.out).c1
          have hz1 : w.heap.size < w1.heap.size := by have h1 := HB.out.size; have h2 := HSZ.out; omega
          go_wp2_with fail
          obtain ⟨W1, hW1⟩ : ∃ W : World, W = w1.alloc (.cells #[.bool false, .slice A2 (ln 0) c2] 24) := ⟨_, rfl⟩
          rw [← hW1]
          have HZ5 : Hd (Blk W1 w1.heap.size 24 [.bool false, .slice A2 (ln 0) c2]) := ⟨by rw [hW1]; exact heap_alloc_new _ _⟩
          have hbw : Below w1.heap.size w1 W1 := by rw [hW1]; exact below_alloc (Below.refl _ _) _
          replace HN2 := Hd.mk (HN2.out.to hbw)
          have HB' : Hd (Below W0.heap.size W0 _) := ⟨bel_then (by repeat (first | exact HB.out | exact Below.refl _ _ | refine below_alloc ?_ _ | refine below_drewN ?_ _ | refine below_drew ?_ | refine below_set ?_ (by first | exact Nat.le_refl _ | omega | (simp; done) | (simp; omega)) _)) hbw⟩; clear HB; have HB := HB'; clear HB' hbw; replace q0 := (Q0.out.to HB.out).c0; replace q1 := (Q0.out.to HB.out).c1
          clear hW1 hz1
          refine (HV.out _ (bel_then HW.out HB.out)).mono ?_
          rintro e w2 ⟨rfl, hb2⟩
          replace HN2 := Hd.mk (HN2.out.to hb2)
          replace HZ5 := Hd.mk (HZ5.out.to hb2)
          have hz5 : w1.heap.size < w2.heap.size := HZ5.out.lt
          have HB' : Hd (Below W0.heap.size W0 _) := ⟨bel_then (by repeat (first | exact HB.out | exact Below.refl _ _ | refine below_alloc ?_ _ | refine below_drewN ?_ _ | refine below_drew ?_ | refine below_set ?_ (by first | exact Nat.le_refl _ | omega | (simp; done) | (simp; omega)) _)) hb2⟩; clear HB; have HB := HB'; clear HB' hb2; replace q0 := (Q0.out.to HB.out).c0; replace q1 := (Q0.out.to HB.out).c1
          go_wp2_with fail
          refine (awake_calls _).mono ?_
          rintro e w3 ⟨rfl, hb3⟩
          have HB' : Hd (Below W0.heap.size W0 _) := ⟨bel_then (by repeat (first | exact HB.out | exact Below.refl _ _ | refine below_alloc ?_ _ | refine below_drewN ?_ _ | refine below_drew ?_ | refine below_set ?_ (by first | exact Nat.le_refl _ | omega | (simp; done) | (simp; omega)) _)) hb3⟩; clear HB; have HB := HB'; clear HB' hb3; replace q0 := (Q0.out.to HB.out).c0; replace q1 := (Q0.out.to HB.out).c1
          go_wp2_with fail
          go_ret
          exact ⟨rfl, bel_then HW.out HB.out⟩
        · have hk2 : 64 < k := by
            rcases Int.lt_or_le 64 k with h | h
            · exact h
            · exact absurd ⟨hok, rfl, by omega, h⟩ hall
          clear hall hok hx
          go_enter Try.func6, Try.ntmps6
          go_wp2_with fail
          obtain ⟨W0, hW0⟩ : ∃ W : World, W = w.alloc (.cells #[.bool false, .slice A1 n1 c1] 24) := ⟨_, rfl⟩
          rw [← hW0]
          have HSZ : Hd (w.heap.size + 1 = W0.heap.size) := ⟨by rw [hW0]; simp⟩
          obtain ⟨hB0, hBW⟩ := boxes1 hW0
          have q0 := hB0.c0
          have q1 := hB0.c1
          have Q0 := Hd.mk hB0
          have HW := Hd.mk hBW
          have HB : Hd (Below W0.heap.size W0 W0) := ⟨Below.refl _ _⟩
          clear hB0 hBW hW0
          refine (HR.out _ (bel_then HW.out (by repeat (first | exact HB.out | exact Below.refl _ _ | refine below_alloc ?_ _ | refine below_drewN ?_ _ | refine below_drew ?_ | refine below_set ?_ (by first | exact Nat.le_refl _ | omega | (simp; done) | (simp; omega)) _)))).mono ?_
          rintro e w1 ⟨A2, c2, rfl, hn2, hb1⟩
          have HN2 := Hd.mk hn2
          clear hn2
          have HB' : Hd (Below W0.heap.size W0 _) := ⟨bel_then (by repeat (first | exact HB.out | exact Below.refl _ _ | refine below_alloc ?_ _ | refine below_drewN ?_ _ | refine below_drew ?_ | refine below_set ?_ (by first | exact Nat.le_refl _ | omega | (simp; done) | (simp; omega)) _)) hb1⟩; clear HB; have HB := HB'; clear HB' hb1; replace q0 := (Q0.out.to HB.out).c0; replace q1 := (Q0.out.to HB.out).c1
          have hz1 : w.heap.size < w1.heap.size := by have h1 := HB.out.size; have h2 := HSZ.out; omega
          go_wp2_with fail
          obtain ⟨W1, hW1⟩ : ∃ W : World, W = w1.alloc (.cells #[.bool false, .slice A2 (ln 0) c2] 24) := ⟨_, rfl⟩
          rw [← hW1]
          have HZ5 : Hd (Blk W1 w1.heap.size 24 [.bool false, .slice A2 (ln 0) c2]) := ⟨by rw [hW1]; exact heap_alloc_new _ _⟩
          have hbw : Below w1.heap.size w1 W1 := by rw [hW1]; exact below_alloc (Below.refl _ _) _
          replace HN2 := Hd.mk (HN2.out.to hbw)
          have HB' : Hd (Below W0.heap.size W0 _) := ⟨bel_then (by repeat (first | exact HB.out | exact Below.refl _ _ | refine below_alloc ?_ _ | refine below_drewN ?_ _ | refine below_drew ?_ | refine below_set ?_ (by first | exact Nat.le_refl _ | omega | (simp; done) | (simp; omega)) _)) hbw⟩; clear HB; have HB := HB'; clear HB' hbw; replace q0 := (Q0.out.to HB.out).c0; replace q1 := (Q0.out.to HB.out).c1
          clear hW1 hz1
          refine (HV.out _ (bel_then HW.out HB.out)).mono ?_
          rintro e w2 ⟨rfl, hb2⟩
          replace HN2 := Hd.mk (HN2.out.to hb2)
          replace HZ5 := Hd.mk (HZ5.out.to hb2)
          have hz5 : w1.heap.size < w2.heap.size := HZ5.out.lt
          have HB' : Hd (Below W0.heap.size W0 _) := ⟨bel_then (by repeat (first | exact HB.out | exact Below.refl _ _ | refine below_alloc ?_ _ | refine below_drewN ?_ _ | refine below_drew ?_ | refine below_set ?_ (by first | exact Nat.le_refl _ | omega | (simp; done) | (simp; omega)) _)) hb2⟩; clear HB; have HB := HB'; clear HB' hb2; replace q0 := (Q0.out.to HB.out).c0; replace q1 := (Q0.out.to HB.out).c1
          go_wp2_with fail
          refine (awake_calls _).mono ?_
          rintro e w3 ⟨rfl, hb3⟩
          have HB' : Hd (Below W0.heap.size W0 _) := ⟨bel_then (by repeat (first | exact HB.out | exact Below.refl _ _ | refine below_alloc ?_ _ | refine below_drewN ?_ _ | refine below_drew ?_ | refine below_set ?_ (by first | exact Nat.le_refl _ | omega | (simp; done) | (simp; omega)) _)) hb3⟩; clear HB; have HB := HB'; clear HB' hb3; replace q0 := (Q0.out.to HB.out).c0; replace q1 := (Q0.out.to HB.out).c1
          go_wp2_with fail
          go_ret
          exact ⟨rfl, bel_then HW.out HB.out⟩
    · have hno : Raw.ok ⟨neg, A1, c1, xs⟩ = false := by simpa using hok
      rw [hno] at HV
      simp only at HR HV ⊢
      obtain ⟨n1, hn1⟩ : ∃ n, n = xs.length := ⟨_, rfl⟩
      rw [← hn1] at HR HV ⊢
      clear hn1 hall hok hno hx
      go_enter Try.func6, Try.ntmps6
      go_wp2_with fail
      obtain ⟨W0, hW0⟩ : ∃ W : World, W = w.alloc (.cells #[.bool neg, .slice A1 n1 c1] 24) := ⟨_, rfl⟩
      rw [← hW0]
      have HSZ : Hd (w.heap.size + 1 = W0.heap.size) := ⟨by rw [hW0]; simp⟩
      obtain ⟨hB0, hBW⟩ := boxes1 hW0
      have q0 := hB0.c0
      have q1 := hB0.c1
      have Q0 := Hd.mk hB0
      have HW := Hd.mk hBW
      have HB : Hd (Below W0.heap.size W0 W0) := ⟨Below.refl _ _⟩
      clear hB0 hBW hW0
      refine (HR.out _ (bel_then HW.out (by repeat (first | exact HB.out | exact Below.refl _ _ | refine below_alloc ?_ _ | refine below_drewN ?_ _ | refine below_drew ?_ | refine below_set ?_ (by first | exact Nat.le_refl _ | omega | (simp; done) | (simp; omega)) _)))).mono ?_
      rintro e w1 ⟨A2, c2, rfl, hn2, hb1⟩
      have HN2 := Hd.mk hn2
      clear hn2
      have HB' : Hd (Below W0.heap.size W0 _) := ⟨bel_then (by repeat (first | exact HB.out | exact Below.refl _ _ | refine below_alloc ?_ _ | refine below_drewN ?_ _ | refine below_drew ?_ | refine below_set ?_ (by first | exact Nat.le_refl _ | omega | (simp; done) | (simp; omega)) _)) hb1⟩; clear HB; have HB := HB'; clear HB' hb1; replace q0 := (Q0.out.to HB.out).c0; replace q1 := (Q0.out.to HB.out).c1
      have hz1 : w.heap.size < w1.heap.size := by have h1 := HB.out.size; have h2 := HSZ.out; omega
      go_wp2_with fail
      obtain ⟨W1, hW1⟩ : ∃ W : World, W = w1.alloc (.cells #[.bool false, .slice A2 (ln 0) c2] 24) := ⟨_, rfl⟩
      rw [← hW1]
      have HZ5 : Hd (Blk W1 w1.heap.size 24 [.bool false, .slice A2 (ln 0) c2]) := ⟨by rw [hW1]; exact heap_alloc_new _ _⟩
      have hbw : Below w1.heap.size w1 W1 := by rw [hW1]; exact below_alloc (Below.refl _ _) _
      replace HN2 := Hd.mk (HN2.out.to hbw)
      have HB' : Hd (Below W0.heap.size W0 _) := ⟨bel_then (by repeat (first | exact HB.out | exact Below.refl _ _ | refine below_alloc ?_ _ | refine below_drewN ?_ _ | refine below_drew ?_ | refine below_set ?_ (by first | exact Nat.le_refl _ | omega | (simp; done) | (simp; omega)) _)) hbw⟩; clear HB; have HB := HB'; clear HB' hbw; replace q0 := (Q0.out.to HB.out).c0; replace q1 := (Q0.out.to HB.out).c1
      clear hW1 hz1
      refine (HV.out _ (bel_then HW.out HB.out)).mono ?_
      rintro e w2 ⟨rfl, hb2⟩
      replace HN2 := Hd.mk (HN2.out.to hb2)
      replace HZ5 := Hd.mk (HZ5.out.to hb2)
      have hz5 : w1.heap.size < w2.heap.size := HZ5.out.lt
      have HB' : Hd (Below W0.heap.size W0 _) := ⟨bel_then (by repeat (first | exact HB.out | exact Below.refl _ _ | refine below_alloc ?_ _ | refine below_drewN ?_ _ | refine below_drew ?_ | refine below_set ?_ (by first | exact Nat.le_refl _ | omega | (simp; done) | (simp; omega)) _)) hb2⟩; clear HB; have HB := HB'; clear HB' hb2; replace q0 := (Q0.out.to HB.out).c0; replace q1 := (Q0.out.to HB.out).c1
      go_wp2_with fail
      refine (awake_calls _).mono ?_
      rintro e w3 ⟨rfl, hb3⟩
      have HB' : Hd (Below W0.heap.size W0 _) := ⟨bel_then (by repeat (first | exact HB.out | exact Below.refl _ _ | refine below_alloc ?_ _ | refine below_drewN ?_ _ | refine below_drew ?_ | refine below_set ?_ (by first | exact Nat.le_refl _ | omega | (simp; done) | (simp; omega)) _)) hb3⟩; clear HB; have HB := HB'; clear HB' hb3; replace q0 := (Q0.out.to HB.out).c0; replace q1 := (Q0.out.to HB.out).c1
      go_wp2_with fail
      go_ret
      exact ⟨rfl, bel_then HW.out HB.out⟩
end Go.Proofs.Ytcjcpfafalkceaa
