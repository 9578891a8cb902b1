/- Part 16 of the texts behind this claim. -/
import Derived.Deep.CutBlock
import Derived.Test.YtcjcpfafalkceaaFq15
set_option linter.unusedVariables false
namespace Go.Proofs.Ytcjcpfafalkceaa
open Go.RowKit
attribute [local go_sem] run_min2_int run_min_two
set_option maxHeartbeats 4000000 in
set_option maxRecDepth 100000 in
theorem div_long (A1 : Option Addr) (c1 a : Nat) (A2 : Option Addr) (c2 b : Nat) (w : World) (h1 : NN w A1 c1 a) (h2 : NN w A2 c2 b) (hle : b ≤ a) (hlb : 2 ≤ ln b) (l1 : ln a ≤ 268435456) :
    Calls Try.prog 93 #[.slice A1 (ln a) c1, .slice A2 (ln b) c2] w (RetNN (a / b) (a % b) w) := by
  have hb0 : b ≠ 0 := fun h => by rw [h, ln_zero] at hlb; omega
  have hlab := ln_mono hle
  obtain ⟨y, hy⟩ : ∃ y, y = (dig b).getD (ln b - 1) 0 := ⟨_, rfl⟩
  obtain ⟨s, hs⟩ : ∃ s, s = 32 - nbits y := ⟨_, rfl⟩
  obtain ⟨hyl, hn1, hn2, hvn, hlv, hNv, hN1, hN2, hv0⟩ := long_begin (a := a) hy hb0 hs hlab
  have hs32 : s < 32 := by omega
  have hlz : (32 : Int) - (Lib.bitLen (y : Int).toNat : Int) = (s : Int) := by rw [Int.toNat_natCast, bitLen_nbits hyl]; omega
  have HLZ := Hd.mk (fun W => Try.bits_LeadingZeros32 (y : Int) W (by omega) (by omega))
  rw [hlz] at HLZ
  obtain ⟨v, hv⟩ : ∃ v, v = b * 2 ^ s := ⟨_, rfl⟩
  obtain ⟨N, hN⟩ : ∃ N, N = a * 2 ^ s := ⟨_, rfl⟩
  have HSB := Hd.mk (fun W (hW : Below w.heap.size w W) => shl_calls A2 c2 b s W (h2.to hW) (by omega) (by omega))
  have HSA := Hd.mk (fun W (hW : Below w.heap.size w W) => shl_calls A1 c1 a s W (h1.to hW) (by omega) (by omega))
  have HCMP := Hd.mk (fun W (hW : Below w.heap.size w W) => cmp_calls A1 c1 a A2 c2 b W (h1.to hW) (h2.to hW))
  have HEND := Hd.mk (fun Q R (h : N = v * Q + R) (hR : R < v) => long_end (a := a) (b := b) (s := s) (Q := Q) (R := R) (by rw [← hN, ← hv]; exact h) (by rw [← hv]; exact hR))
  rw [← hv] at HSB hvn hlv hv0
  rw [← hN] at HSA hN1 hN2
  rw [← hv, ← hN] at hNv
  obtain ⟨ad2, rfl, hcy⟩ := h2.at_ (k := ln b - 1) (by omega)
  rw [← hy] at hcy
  obtain ⟨la, hla⟩ : ∃ la, la = ln a := ⟨_, rfl⟩
  obtain ⟨lb, hlbq⟩ : ∃ lb, lb = ln b := ⟨_, rfl⟩
  rw [← hla] at HSA HCMP hlab hNv hN1 hN2 l1 ⊢
  rw [← hlbq] at HSB HCMP hlab hNv hlb hvn hlv hcy ⊢
  have HLV := Hd.mk hlv
  have HVN := Hd.mk hvn
  have HNV := Hd.mk hNv
  have hcvp : 0 ≤ cmpv a b := by
    unfold cmpv
    rw [if_neg (show ¬ a < b by omega)]
    split <;> omega
  obtain ⟨cv, hcv⟩ : ∃ cv, cv = cmpv a b := ⟨_, rfl⟩
  have hcv0 : 0 ≤ cv := by rw [hcv]; exact hcvp
  rw [← hcv] at HCMP
  have hlb1 : ((lb : Int) == 1) = false := by rw [beq_eq_false_iff_ne]; omega
  obtain ⟨d1, hd1⟩ : ∃ d, d = a / b := ⟨_, rfl⟩
  obtain ⟨d2, hd2⟩ : ∃ d, d = a % b := ⟨_, rfl⟩
  rw [← hd1, ← hd2] at HEND ⊢
  have hq1le : ln d1 ≤ la := by rw [hd1, hla]; exact ln_mono (Nat.div_le_self _ _)
  clear hcvp hcv hla hlbq hv hN hs hy hlz hb0 hle h1 h2 hlv hNv hvn hd1 hd2
  obtain ⟨L1, hL1⟩ : ∃ P, P = lb - 1 := ⟨_, rfl⟩
  have i4 : (lb : Int) - 1 = (L1 : Int) := by omega
  have HL1 := Hd.mk hL1
  rw [← hL1] at hcy
  clear hL1
  obtain ⟨lN, hlN⟩ : ∃ lN, lN = ln N := ⟨_, rfl⟩
  rw [← hlN] at hN1 hN2
  have HLN := Hd.mk hlN
  clear hlN
  go_enter Try.func93, Try.ntmps93
  go_wp2_with fail
  refine (HCMP.out _ (Below.refl _ _)).mono ?_
  rintro e w1 ⟨rfl, q0, rfl⟩
  go_wp2_with fail
  refine (HLZ.out _).mono ?_
  rintro e w1 ⟨rfl, rfl⟩
  go_wp2_with fail
  refine (HSB.out _ (by repeat (first | exact HB.out | exact Below.refl _ _ | refine below_alloc ?_ _ | refine below_drewN ?_ _ | refine below_drew ?_ | refine below_set ?_ (by first | exact Nat.le_refl _ | omega | (simp; done) | (simp; omega)) _))).mono ?_
  rintro e w1 ⟨vv, rfl, hov, hb1⟩
  have HB1 : Hd (Below w.heap.size w w1) := ⟨bel_then (by repeat (first | exact HB.out | exact Below.refl _ _ | refine below_alloc ?_ _ | refine below_drewN ?_ _ | refine below_drew ?_ | refine below_set ?_ (by first | exact Nat.le_refl _ | omega | (simp; done) | (simp; omega)) _)) hb1⟩
  rw [HLV.out] at hov
  have hovl : w1.ownsRow w.heap.size 72 1 vv (dig v).length (cells (dig v)) := by rw [dig_length, HLV.out]; exact hov
  obtain ⟨Av, cvv, hvv, hrv, hcv1, hcv2⟩ := own_slice hovl
  have hbv : ∀ g, Av = some g → g.block < w1.heap.size := by
    intro g hg
    obtain ⟨_, h, hc⟩ := hrv (by rw [dig_length, HLV.out]; omega)
    rw [hg] at h
    cases h
    have := World.block_lt_of_cell? _ _ (hc 0 (by rw [dig_length, HLV.out]; omega))
    rwa [block_add] at this
  have hvv2 : vv = .slice Av lb cvv := by rw [hvv, dig_length, HLV.out]
  subst hvv2
  have HNV1 : Hd (NN w1 Av cvv v) := ⟨⟨hrv, by rw [← dig_length]; exact hcv1, hcv2⟩⟩
  have HBV := Hd.mk hbv
  clear hov hb1 hovl hvv hrv hbv
  go_wp2_with fail
  refine (HSA.out _ HB1.out).mono ?_
  rintro e w2 ⟨uu, rfl, hou, hb2⟩
  have HO := Hd.mk hou
  have HB2 := Hd.mk hb2
  clear hou hb2
  obtain ⟨i0, hi, hz0, hz1, hz2⟩ := info_parts Try.info_word
  have HR0 := Hd.mk (Blk.reads (ds := [0, 0]) (heap_alloc_new w2 (.cells (cells [0, 0]).toArray 72)))
  go_wp2_with (first | (at_builtin; refine wpList_append_any _ rfl (.tmp 42) (.tmp 43) 68 rfl w1.heap.size 72 i0 (.int .u32 0) 1 4 Try.underlying68 hi hz0 hz1 hz2 rfl (by decide) uu lN (cells (dig N)) rfl ((by rw [HLN.out]; exact HO.out : w2.ownsRow w1.heap.size 72 1 uu lN (cells (dig N))).alloc _) _ (some ⟨w2.heap.size, 0, none⟩) 2 2 (cells [0, 0]) rfl HR0.out.reads (cells_one _) (by unfold maxLen; omega) (by omega) (by have := HB2.out.size; simp; omega) ?_; intro v1 w3 hown1 hg1 hat1; obtain ⟨gU, cu, post0, rfl, hgU, hcu1, hcu2, hblk0, hgUl⟩ := own_block hown1 (by omega); have HU0 := Hd.mk hblk0; have HG1 := Hd.mk hg1; have hcu3 : (la : Int) + 1 ≤ (cu : Int) := (by omega); have HB3 : Hd (Below w1.heap.size w1 w3) := ⟨(below_alloc HB2.out _).grown HG1.out (by have := HB2.out.size; simp; omega) (own_ge HO.out)⟩; have HMK := Hd.mk (fun W => make_words 68 Try.underlying68 ((la : Int) - (lb : Int) + 1) (la - lb + 1) (by omega) (by omega) W); have hmk := HMK.out; clear hown1 hg1 hat1 hblk0))
  clear hmk
  have HFAR : Hd (Far Av gU) := ⟨fun ad h => by have := HBV.out ad h; omega⟩
  have HFAR2 : Hd (Far Av w3.heap.size) := ⟨fun ad h => by have := HBV.out ad h; omega⟩
  have HNV3 := Hd.mk (HNV1.out.to HB3.out)
  -- the row of the dividend
  obtain ⟨us0, hus0⟩ : ∃ us0, us0 = (dig N ++ [0, 0]).take (la + 1) := ⟨_, rfl⟩
  obtain ⟨post, hpost⟩ : ∃ p, p = cells ((dig N ++ [0, 0]).drop (la + 1)) ++ post0 := ⟨_, rfl⟩
  have hlen0 : (dig N ++ [0, 0]).length = lN + 2 := by rw [List.length_append, dig_length, ← HLN.out]; rfl
  have hul : us0.length = la + 1 := by rw [hus0, List.length_take, hlen0]; omega
  have hdg0 : Dg (dig N ++ [0, 0]) := dg_append (dg_dig N) (by intro x hx; simp at hx; subst hx; exact B_pos)
  have hud : Dg us0 := by rw [hus0]; exact dg_take hdg0 _
  have huv : val us0 = N := by
    rw [hus0, val_take_mod hdg0, val_append, val_dig, show val [0, 0] = 0 from rfl, Nat.mul_zero, Nat.add_zero]
    apply Nat.mod_eq_of_lt
    exact Nat.lt_of_lt_of_le (lt_pow_ln N) (Nat.pow_le_pow_right B_pos (by rw [← HLN.out]; exact hN1))
  have hU3 : Blk w3 gU 72 (cells us0 ++ post) := by
    have := HU0.out
    rw [← cells_append, ← List.take_append_drop (la + 1) (dig N ++ [0, 0]), cells_append, List.append_assoc, ← hus0, ← hpost] at this
    exact this
  have HU := Hd.mk hU3
  have HUL := Hd.mk hul
  have HUD := Hd.mk hud
  have HUV := Hd.mk huv
  have HL0 := Hd.mk (long_start (qs := List.replicate (la - lb + 1) 0) huv HNV.out (by rw [List.length_replicate]; exact Nat.le_refl _))
  have hgUw : w.heap.size ≤ gU := Nat.le_trans HB1.out.size hgU
  have HBW : Hd (Below w.heap.size w w3) := ⟨below_then HB1.out HB1.out.size HB3.out⟩
  clear hus0 hpost hlen0 hul hdg0 hud huv hU3 HU0 HG1 HMK HNV1 HBV HO HB2 HR0 HB3 HNV hcy
  have hne : gU ≠ w3.heap.size := by omega
  go_loopw [11] (fun s11 wr => ∃ (k : Nat) (us qs : List Nat), k ≤ la - lb + 1 ∧ s11 = .int .i64 ((k : Int) - 1) ∧ us.length = la + 1 ∧ Dg us ∧ qs.length = la - lb + 1 ∧ Dg qs ∧ Long N v k us qs ∧ Blk wr gU 72 (cells us ++ post) ∧ Blk wr w3.heap.size 72 (cells qs) ∧ NN wr Av cvv v ∧ Below w.heap.size w wr) (fun s _ => (intOf s + 1).toNat)
  case atStart => exact ⟨la - lb + 1, us0, List.replicate (la - lb + 1) 0, Nat.le_refl _, by congr 1; omega, HUL.out, HUD.out, by simp, dg_zeros _, HL0.out, HU.out.alloc _, heap_alloc_new w3 _, HNV3.out.to (below_alloc (Below.refl _ _) _), below_alloc HBW.out _⟩
  case round =>
    obtain ⟨k, us, qs, hk, rfl, hul, hud, hql, hqd, hlong, hU, hQ, hNv, hbel⟩ := hrel
    have HUL := Hd.mk hul
    have HUD := Hd.mk hud
    have HQL := Hd.mk hql
    have HQD := Hd.mk hqd
    have HLG := Hd.mk hlong
    have HU := Hd.mk hU
    have HQ := Hd.mk hQ
    have HNVr := Hd.mk hNv
    have HB := Hd.mk hbel
    clear hul hud hql hqd hlong hU hQ hNv hbel
    rcases k with _ | j
    · have hend : val qs = d1 ∧ val us / 2 ^ s = d2 := by
        obtain ⟨h1, h2⟩ := HLG.out
        rw [List.drop_zero, Nat.pow_zero, Nat.one_mul] at h1
        rw [Nat.pow_zero, Nat.mul_one] at h2
        exact HEND.out _ _ h1 h2
      have hc1 := norm_calls (some ⟨w3.heap.size, 0, none⟩) (la - lb + 1) qs wr HQ.out.reads HQD.out (by have := HQL.out; omega) (by omega)
      rw [HQL.out, hend.1] at hc1
      have hc2 := norm_calls (some ⟨gU, 0, none⟩) cu us wr HU.out.readsP HUD.out (by have := HUL.out; omega) hcu2
      rw [HUL.out] at hc2
      have hr1 := HQ.out.reads.of_take HQD.out
      rw [hend.1] at hr1
      have hd1l : ln d1 ≤ la - lb + 1 := by
        rw [← hend.1]
        have := val_lt HQD.out
        rw [HQL.out] at this
        exact ln_le this
      have hul : ln (val us) ≤ la + 1 := by
        have := val_lt HUD.out
        rw [HUL.out] at this
        exact ln_le this
      have HN1 : Hd (NN wr (some ⟨w3.heap.size, 0, none⟩) (la - lb + 1) d1) := ⟨⟨hr1, hd1l, by omega⟩⟩
      have HN2 : Hd (NN wr (some ⟨gU, 0, none⟩) cu (val us)) := ⟨⟨HU.out.readsP.of_take HUD.out, by omega, hcu2⟩⟩
      have HSH := Hd.mk (shr_calls (some ⟨gU, 0, none⟩) cu (val us) s wr HN2.out (by omega) hs32)
      rw [hend.2] at HSH
      have HC1 := Hd.mk hc1
      have HC2 := Hd.mk hc2
      clear hc1 hc2 hr1 hend
      go_wp2_with fail
      refine HC1.out.mono ?_
      rintro e wr' ⟨rfl, rfl⟩
      go_wp2_with fail
      refine HC2.out.mono ?_
      rintro e wr' ⟨rfl, rfl⟩
      go_wp2_with fail
      refine HSH.out.mono ?_
      rintro e wz ⟨A9, c9, rfl, hn9, hb9⟩
      have HN9 := Hd.mk hn9
      have HB9 := Hd.mk hb9
      clear hn9 hb9
      go_wp2_with fail
      go_ret2
      exact ⟨_, _, A9, c9, rfl, HN1.out.to HB9.out, HN9.out, bel_then HB.out HB9.out⟩
    · have hjn : j + lb ≤ la := by omega
      have e5 : ((j + 1 : Nat) : Int) - 1 = (j : Int) := by omega
      rw [e5]
      clear e5
      obtain ⟨wo, hwo⟩ : ∃ wo : World, wo = wr := ⟨_, rfl⟩
      subst hwo
      obtain ⟨P, hP⟩ : ∃ P, P = j + lb := ⟨_, rfl⟩
      obtain ⟨P1, hP1⟩ : ∃ P, P = j + lb - 1 := ⟨_, rfl⟩
      obtain ⟨P0, hP0⟩ : ∃ P, P = j + lb - 2 := ⟨_, rfl⟩
      obtain ⟨L0, hL0⟩ : ∃ P, P = lb - 2 := ⟨_, rfl⟩
      have i1 : (j : Int) + (lb : Int) = (P : Int) := by omega
      have i2 : (P : Int) - 1 = (P1 : Int) := by omega
      have i3 : (P : Int) - 2 = (P0 : Int) := by omega
      have i5 : (lb : Int) - 2 = (L0 : Int) := by omega
      have i6 : IntKind.i64.wrap (P : Int) = (P : Int) := IntWalk.i64_in _ (by omega)
      have i7 : IntKind.i64.wrap (P1 : Int) = (P1 : Int) := IntWalk.i64_in _ (by omega)
      have i8 : IntKind.i64.wrap (P0 : Int) = (P0 : Int) := IntWalk.i64_in _ (by omega)
      have i9 : IntKind.i64.wrap (L0 : Int) = (L0 : Int) := IntWalk.i64_in _ (by omega)
      have hPl : P < la + 1 := by omega
      have hP1l : P1 < la + 1 := by omega
      have hP0l : P0 < la + 1 := by omega
      have hL1l : L1 < lb := by have := HL1.out; omega
      have hL0l : L0 < lb := by omega
      obtain ⟨x2, hx2⟩ : ∃ x, x = us.getD (j + lb) 0 := ⟨_, rfl⟩
      obtain ⟨x1, hx1⟩ : ∃ x, x = us.getD (j + lb - 1) 0 := ⟨_, rfl⟩
      obtain ⟨x0, hx0⟩ : ∃ x, x = us.getD (j + lb - 2) 0 := ⟨_, rfl⟩
      obtain ⟨v1, hv1⟩ : ∃ x, x = (dig v).getD (lb - 1) 0 := ⟨_, rfl⟩
      obtain ⟨v2, hv2⟩ : ∃ x, x = (dig v).getD (lb - 2) 0 := ⟨_, rfl⟩
      obtain ⟨top, htop⟩ : ∃ x, x = x2 * 4294967296 + x1 := ⟨_, rfl⟩
      have HDG := Hd.mk (digit_of (by omega) HUL.out HUD.out hjn HVN.out HLV.out HLG.out hx2 hx1 hx0 hv1 hv2 htop)
      have cx2 := HU.out.atP (i := j + lb) (by have := HUL.out; omega)
      have cx1 := HU.out.atP (i := j + lb - 1) (by have := HUL.out; omega)
      have cx0 := HU.out.atP (i := j + lb - 2) (by have := HUL.out; omega)
      rw [← hx2, ← hP] at cx2
      rw [← hx1, ← hP1] at cx1
      rw [← hx0, ← hP0] at cx0
      obtain ⟨adv, rfl, cv1⟩ := HNVr.out.at_ (k := lb - 1) (by have := HLV.out; omega)
      obtain ⟨adv2, hadv2, cv2⟩ := HNVr.out.at_ (k := lb - 2) (by have := HLV.out; omega)
      cases hadv2
      rw [← hv1, ← HL1.out] at cv1
      rw [← hv2, ← hL0] at cv2
      have hx2l := HDG.out.x2l
      have hx1l := HDG.out.x1l
      have hv1l := HDG.out.v1l
      have hv1p := HDG.out.v1p
      have htl := HDG.out.topl
      have itop : bits .or .u64 ((x2 : Int) * 4294967296) (x1 : Int) = (top : Int) := by rw [or_high x2 x1 hx1l hx2l, htop]
      have itop2 : (x2 : Int) * 4294967296 ≤ 18446744073709551615 := by omega
      have itop3 : IntKind.u64.wrap ((x2 : Int) * 4294967296) = (x2 : Int) * 4294967296 := by rw [IntKind.wrap_u64]; omega
      have HPJ : Hd (P + 1 - j = lb + 1) := ⟨by omega⟩
      clear hP hP1 hP0 hL0 hx2 hx1 hx0 hv1 hv2 htop
      obtain ⟨W, hWq⟩ : ∃ W, W = val ((us.drop j).take (lb + 1)) := ⟨_, rfl⟩
      rw [← hWq] at HDG
      have HWQ := Hd.mk hWq
      clear hWq
      go_wp2_with fail
      go_quiet (fail)
      go_upto_region 14 with fail
      go_cut [13] (fun s wx => ∃ g : Nat, s = .int .u64 (g : Int) ∧ W / v ≤ g ∧ g * v1 ≤ top ∧ g < 4294967296 ∧ ∃ q, wx = wo.drewN q)
      case first => as_aux_lemma =>
        obtain ⟨tq, htq⟩ : ∃ t, t = top / v1 := ⟨_, rfl⟩
        have e1 : (top : Int) / (v1 : Int) = (tq : Int) := by rw [htq]; exact (Int.natCast_ediv _ _).symm
        have hin := HDG.out.init
        rw [← htq] at hin
        have HIN := Hd.mk hin
        have HM : Hd (tq * v1 ≤ top) := ⟨by rw [htq]; exact Nat.div_mul_le_self _ _⟩
        have hv10 : ((v1 : Int) == 0) = false := by rw [beq_eq_false_iff_ne]; omega
        have htql : tq ≤ 18446744073709551615 := by rw [htq]; exact Nat.le_trans (Nat.div_le_self _ _) htl
        clear htq hin
        by_cases hlt : 4294967295 < tq
        · have hlt' : (4294967295 : Int) < (tq : Int) := by omega
          go_wp2_with fail
          go_meet
          refine ⟨4294967295, rfl, Nat.le_trans HIN.out (Nat.min_le_right _ _), Nat.le_trans (Nat.mul_le_mul_right _ (by omega)) HM.out, by omega, _, rfl⟩
        · have hlt' : ¬ (4294967295 : Int) < (tq : Int) := by omega
          go_wp2_with fail
          go_meet
          exact ⟨tq, rfl, Nat.le_trans HIN.out (Nat.min_le_left _ _), HM.out, by omega, _, rfl⟩
      case rest => as_aux_lemma =>
        obtain ⟨g0, rfl, hg1, hg2, hg3, qd, rfl⟩ := hcut
        obtain ⟨gv, hgv⟩ : ∃ t, t = g0 * v1 := ⟨_, rfl⟩
        have e1 : (g0 : Int) * (v1 : Int) = (gv : Int) := by rw [hgv]; exact (Int.natCast_mul _ _).symm
        rw [← hgv] at hg2
        obtain ⟨r0, hr0⟩ : ∃ t, t = top - gv := ⟨_, rfl⟩
        have e2 : (top : Int) - (gv : Int) = (r0 : Int) := by omega
        have HS : Hd (g0 * v1 + r0 = top) := ⟨by rw [← hgv]; omega⟩
        have HG1 := Hd.mk hg1
        have hr0l : r0 ≤ 18446744073709551615 := by omega
        clear hgv hr0 hg1
        go_wp2_with fail
        go_loopw [13, 14] (fun s13 s14 wx => ∃ (g rest : Nat), s13 = .int .u64 (g : Int) ∧ s14 = .int .u64 (rest : Int) ∧ g < 4294967296 ∧ g * v1 + rest = top ∧ W / v ≤ g ∧ ∃ q, wx = wo.drewN q) (fun _ s14 _ => (4294967296 - intOf s14).toNat)
        case atStart => exact ⟨g0, r0, rfl, rfl, hg3, HS.out, HG1.out, _, rfl⟩
        case round => as_aux_lemma =>
          obtain ⟨g, rest, rfl, rfl, hg3, hs, hg1, qe, rfl⟩ := hrel
          have HSS := Hd.mk hs
          have HGG := Hd.mk hg1
          have hrl : rest ≤ 18446744073709551615 := by omega
          have hgv1 : g * v1 ≤ top := by omega
          have HGV := Hd.mk hgv1
          clear hs hg1 hgv1 HS HG1
          have hv2l := HDG.out.v2l
          have hx0l := HDG.out.x0l
          obtain ⟨gw, hgw⟩ : ∃ t, t = g * v2 := ⟨_, rfl⟩
          have hgwl : gw ≤ 18446744065119617025 := by rw [hgw]; exact (mul_fits hg3 hv2l (by omega : 0 < 4294967296) (by omega : 0 < 4294967296)).1
          have e3 : (g : Int) * (v2 : Int) = (gw : Int) := by rw [hgw]; exact (Int.natCast_mul _ _).symm
          obtain ⟨cnd, hcnd⟩ : ∃ c, c = decide (rest < 4294967296 ∧ rest * 4294967296 + x0 < gw) := ⟨_, rfl⟩
          have HCND := Hd.mk hcnd
          have HGW := Hd.mk hgw
          clear hcnd hgw
          go_upto_region 16 with fail
          go_cut [124] (fun s wx => s = .bool cnd ∧ ∃ q, wx = wo.drewN q)
          case first => as_aux_lemma =>
            by_cases hr : rest < 4294967296
            · have hr' : decide ((rest : Int) < 4294967296) = true := decide_eq_true (by omega)
              obtain ⟨rx, hrx⟩ : ∃ t, t = rest * 4294967296 + x0 := ⟨_, rfl⟩
              have e4 : bits .or .u64 ((rest : Int) * 4294967296) (x0 : Int) = (rx : Int) := by rw [or_high rest x0 hx0l hr, hrx]
              have e5 : IntKind.u64.wrap ((rest : Int) * 4294967296) = (rest : Int) * 4294967296 := by rw [IntKind.wrap_u64]; omega
              have e6 : IntKind.u64.wrap (gw : Int) = (gw : Int) := by rw [IntKind.wrap_u64]; omega
              have hr2 : (rest : Int) * 4294967296 ≤ 18446744073709551615 := by omega
              by_cases hlt : rx < gw
              · have HC : Hd (cnd = true) := ⟨by rw [HCND.out]; exact decide_eq_true ⟨hr, by omega⟩⟩
                have hlt' : decide (rx < gw) = true := decide_eq_true hlt
                clear hrx hr hlt
                go_quiet (fail)
                go_wp2_with fail
                go_meet
                exact ⟨by rw [HC.out], _, by rw [World.drewN_drewN]⟩
              · have HC : Hd (cnd = false) := ⟨by rw [HCND.out]; exact decide_eq_false (fun h => by omega)⟩
                have hlt' : decide (rx < gw) = false := decide_eq_false hlt
                clear hrx hr hlt
                go_quiet (fail)
                go_wp2_with fail
                go_meet
                exact ⟨by rw [HC.out], _, by rw [World.drewN_drewN]⟩
            · have hr' : decide ((rest : Int) < 4294967296) = false := decide_eq_false (by omega)
              have HC : Hd (cnd = false) := ⟨by rw [HCND.out]; exact decide_eq_false (fun h => hr h.1)⟩
              clear hr
              go_quiet (fail)
              go_wp2_with fail
              go_meet
              exact ⟨by rw [HC.out], _, by rw [World.drewN_drewN]⟩
          case rest => as_aux_lemma =>
            obtain ⟨rfl, qf, rfl⟩ := hcut
            rcases cnd with _ | _
            · have HX : Hd (4294967296 ≤ rest ∨ g * v2 ≤ rest * 4294967296 + x0) := ⟨by
                have h := of_decide_eq_false HCND.out.symm
                rw [← HGW.out]
                omega⟩
              have HFIX := Hd.mk (HDG.out.fix g rest HSS.out HGG.out hg3 HX.out)
              have hsl : ((us.drop j).take (lb + 1)).length = lb + 1 := by rw [List.length_take, List.length_drop, HUL.out]; omega
              have hBk : Blk (wo.drewN qf) gU 72 (cells (us.take j) ++ (cells ((us.drop j).take (lb + 1)) ++ (cells ((us.drop j).drop (lb + 1)) ++ post))) := by
                rw [← seg_split]
                exact HU.out.drewN qf
              have HBK := Hd.mk hBk
              have HSL := Hd.mk hsl
              have HPL : Hd ((cells (us.take j)).length = j) := ⟨by rw [cells_length, List.length_take, HUL.out]; omega⟩
              have HTK := Hd.mk (take_calls gU j (lb + 1) (cu - j) (cells (us.take j)) (cells ((us.drop j).drop (lb + 1)) ++ post) ((us.drop j).take (lb + 1)) (some adv) cvv v g (wo.drewN qf) HPL.out hsl (dg_take (dg_drop HUD.out _) _) hBk (HNVr.out.to (below_drewN (Below.refl _ _) _)) HFAR.out (by omega) (by omega) (by omega) (by rw [HLV.out]; omega) hg3)
              rw [HLV.out] at HTK
              obtain ⟨gvv, hgvv⟩ : ∃ x, x = g * v := ⟨_, rfl⟩
              rw [← hgvv] at HFIX
              have HGVV := Hd.mk hgvv
              clear HCND HX e3 HGW hBk hsl hgvv
              go_wp2_with fail
              rw [HPJ.out]
              refine HTK.out.mono ?_
              rintro e wt ⟨rfl, ds, hdl, hdd, hval, hblk, hgr⟩
              rw [← HWQ.out, ← HGVV.out] at hval
              rw [← HWQ.out, ← HGVV.out]
              have HDL := Hd.mk hdl
              have HDD := Hd.mk hdd
              have HVL := Hd.mk hval
              have HBT := Hd.mk hblk
              have HGR := Hd.mk hgr
              have HQT := Hd.mk ((HQ.out.drewN qf).only hgr (Ne.symm hne))
              clear hdl hdd hval hblk hgr HTK HBK
              by_cases hW : W < gvv
              · have hWd : decide (W < gvv) = true := decide_eq_true hW
                rw [hWd]
                obtain ⟨hg1, hfx1, hfx2⟩ := HFIX.out.1 hW
                obtain ⟨g2, hg2⟩ : ∃ x, x = g - 1 := ⟨_, rfl⟩
                have e6 : (g : Int) - 1 = (g2 : Int) := by omega
                have hg2l : g2 < 4294967296 := by omega
                have HGV := Hd.mk (give_calls gU j (lb + 1) (cu - j) (cells (us.take j)) (cells ((us.drop j).drop (lb + 1)) ++ post) ds (some adv) cvv v wt HPL.out HDL.out HDD.out HBT.out ((HNVr.out.to (below_drewN (Below.refl _ _) qf)).only HGR.out HFAR.out) HFAR.out (by omega) (by omega) (by omega) (by rw [HLV.out]; omega))
                rw [HLV.out] at HGV
                have HFN := Hd.mk (fun d2 e2 => fit_no (W := W) (q := g) (v := v) (L := lb + 1) (d := val ds) (d2 := d2) (by rw [HGVV.out] at hW; exact hW) (by rw [← HGVV.out]; exact HVL.out) hg1 hfx1 hfx2 (Nat.lt_of_lt_of_le HVN.out (Nat.pow_le_pow_right B_pos (by omega))) e2)
                rw [← hg2] at HFN
                clear hWd hW hg1 hfx1 hfx2 hg2 HFIX
                go_wp2_with fail
                rw [HPJ.out]
                refine HGV.out.mono ?_
                rintro e wu ⟨rfl, ds2, hdl2, hdd2, hval2, hblk2, hgr2⟩
                have HDL2 := Hd.mk hdl2
                have HDD2 := Hd.mk hdd2
                have HBT2 := Hd.mk hblk2
                have HGR2 := Hd.mk hgr2
                have HFY := Hd.mk (HFN.out _ hval2)
                have HQT2 := Hd.mk (HQT.out.only hgr2 (Ne.symm hne))
                clear hdl2 hdd2 hval2 hblk2 hgr2 HGV HFN
                have cq := HQT2.out.at_ (i := j) (by have := HQL.out; omega)
                have fq := HQT2.out.frozen j
                have HQP := Hd.mk (HQT2.out.put j g2)
                have HLS := Hd.mk (long_step (g := g2) (ds := ds2) HUL.out HUD.out HVN.out (by omega) (by have := HQL.out; omega) HLG.out (by rw [← HWQ.out]; exact HFY.out.1) HFY.out.2 rfl HDL2.out)
                have hgm : (g2 : Int) % 4294967296 = (g2 : Int) := by omega
                go_wp2_with fail
                go_roundw
                case rel =>
                  refine ⟨j, us.take j ++ (ds2 ++ (us.drop j).drop (lb + 1)), qs.set j g2, by omega, rfl, len_join HUL.out HDL2.out hjn, dg_join HUD.out HDD2.out, by rw [List.length_set]; exact HQL.out, dg_set HQD.out _ hg2l, HLS.out, ?_, HQP.out, ?_, ?_⟩
                  · rw [← seg_join]
                    exact HBT2.out.far hne _
                  · exact ((((HNVr.out.to (below_drewN (Below.refl _ _) qf)).only HGR.out HFAR.out).only HGR2.out HFAR.out).only (only_setCell (World.grownBy.refl _ _) rfl _) HFAR2.out)
                  · exact below_set (((below_drewN HB.out qf).grown HGR.out HB.out.size (fun _ h => by cases h; exact hgUw)).grown HGR2.out (Nat.le_trans HB.out.size HGR.out.size) (fun _ h => by cases h; exact hgUw)) HBW.out.size _
                case measure => simp [intOf]
              · have hWd : decide (W < gvv) = false := decide_eq_false hW
                have HFY := Hd.mk (fit_yes (by rw [HGVV.out] at hW; exact hW) (by rw [← HGVV.out]; exact HVL.out) (by rw [← HGVV.out]; exact HFIX.out.2 hW))
                rw [hWd]
                have cq := HQT.out.at_ (i := j) (by have := HQL.out; omega)
                have fq := HQT.out.frozen j
                have HQP := Hd.mk (HQT.out.put j g)
                have HLS := Hd.mk (long_step (g := g) (ds := ds) HUL.out HUD.out HVN.out (by omega) (by have := HQL.out; omega) HLG.out (by rw [← HWQ.out]; exact HFY.out.1) HFY.out.2 rfl HDL.out)
                have hgm : (g : Int) % 4294967296 = (g : Int) := by omega
                clear hWd hW
                go_wp2_with fail
                go_roundw
                case rel =>
                  refine ⟨j, us.take j ++ (ds ++ (us.drop j).drop (lb + 1)), qs.set j g, by omega, rfl, len_join HUL.out HDL.out hjn, dg_join HUD.out HDD.out, by rw [List.length_set]; exact HQL.out, dg_set HQD.out _ hg3, HLS.out, ?_, HQP.out, ?_, ?_⟩
                  · rw [← seg_join]
                    exact HBT.out.far hne _
                  · exact (((HNVr.out.to (below_drewN (Below.refl _ _) qf)).only HGR.out HFAR.out).only (only_setCell (World.grownBy.refl _ _) rfl _) HFAR2.out)
                  · exact below_set ((below_drewN HB.out qf).grown HGR.out HB.out.size (fun _ h => by cases h; exact hgUw)) HBW.out.size _
                case measure => simp [intOf]
            · have hk := of_decide_eq_true HCND.out.symm
              have hst := HDG.out.step g rest HSS.out HGG.out (by rw [← HGW.out]; exact hk.2)
              have hg0 : 1 ≤ g := hst.1
              have HST := Hd.mk hst.2
              have hrs : rest < 4294967296 := hk.1
              have HS2 : Hd ((g - 1) * v1 + (rest + v1) = top) := ⟨by
                have h := HSS.out
                have e : (g - 1) * v1 + v1 = g * v1 := by rw [← Nat.succ_mul]; congr 1; omega
                omega⟩
              obtain ⟨g2, hg2⟩ : ∃ x, x = g - 1 := ⟨_, rfl⟩
              obtain ⟨r2, hr2⟩ : ∃ x, x = rest + v1 := ⟨_, rfl⟩
              have e6 : (g : Int) - 1 = (g2 : Int) := by omega
              have e7 : (rest : Int) + (v1 : Int) = (r2 : Int) := by omega
              rw [← hg2, ← hr2] at HS2
              rw [← hg2] at HST
              have hr2l : r2 ≤ 18446744073709551615 := by omega
              have hg2l : g2 < 4294967296 := by omega
              have hr2m : 4294967296 - r2 < 4294967296 - rest := by omega
              clear hk hst HCND HGW e3 hg2 hr2
              go_wp2_with fail
              go_roundw
              case rel => exact ⟨g2, r2, rfl, rfl, hg2l, HS2.out, HST.out, _, rfl⟩
              case measure => simp [intOf]; omega
end Go.Proofs.Ytcjcpfafalkceaa
