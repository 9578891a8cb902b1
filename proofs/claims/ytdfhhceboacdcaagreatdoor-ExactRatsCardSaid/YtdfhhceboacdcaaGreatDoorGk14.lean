/- Part 14 of the texts behind this claim. -/
import Derived.Deep.CutBlock
import Derived.Test.YtdfhhceboacdcaaGreatDoorGk6
import Derived.Test.YtdfhhceboacdcaaGreatDoorGk12
import Derived.Test.YtdfhhceboacdcaaGreatDoorGk13
set_option linter.unusedVariables false
namespace Go.Proofs.YtdfhhceboacdcaaGreatDoor
open Go.RowKit
attribute [local go_sem] run_min2_int run_min_two
set_option maxHeartbeats 4000000 in
set_option maxRecDepth 100000 in
theorem div_long (A1 : Option Addr) (c1 a : Nat) (A2 : Option Addr) (c2 b : Nat) (w : World) (h1 : NN w A1 c1 a) (h2 : NN w A2 c2 b) (hle : b ≤ a) (hlb : 2 ≤ ln b) (l1 : ln a ≤ 268435456) :
  Calls Tryz.prog 72 #[.slice A1 (ln a) c1, .slice A2 (ln b) c2] w (RetNN (a / b) (a % b) w) := by
 have hb0 : b ≠ 0 := fun h => by rw [h, ln_zero] at hlb; omega
 have hlab := ln_mono hle; obtain ⟨y, hy⟩ : ∃ y, y = (dig b).getD (ln b - 1) 0 := ⟨_, rfl⟩; obtain ⟨s, hs⟩ : ∃ s, s = 32 - nbits y := ⟨_, rfl⟩; obtain ⟨hyl, hn1, hn2, hvn, hlv, hNv, hN1, hN2, hv0⟩ := long_begin (a := a) hy hb0 hs hlab; have hs32 : s < 32 := by omega
 have hlz : (32 : Int) - (Lib.bitLen (y : Int).toNat : Int) = (s : Int) := by rw [Int.toNat_natCast, bitLen_nbits hyl]; omega
 have HLZ := Hd.mk (fun W => Tryz.bits_LeadingZeros32 (y : Int) W (by omega) (by omega)); rw [hlz] at HLZ; obtain ⟨v, hv⟩ : ∃ v, v = b * 2 ^ s := ⟨_, rfl⟩; obtain ⟨N, hN⟩ : ∃ N, N = a * 2 ^ s := ⟨_, rfl⟩; have HSB := Hd.mk (fun W (hW : Below w.heap.size w W) => shl_calls A2 c2 b s W (h2.to hW) (by omega) (by omega)); have HSA := Hd.mk (fun W (hW : Below w.heap.size w W) => shl_calls A1 c1 a s W (h1.to hW) (by omega) (by omega)); have HCMP := Hd.mk (fun W (hW : Below w.heap.size w W) => cmp_calls A1 c1 a A2 c2 b W (h1.to hW) (h2.to hW)); have HEND := Hd.mk (fun Q R (h : N = v * Q + R) (hR : R < v) => long_end (a := a) (b := b) (s := s) (Q := Q) (R := R) (by rw [← hN, ← hv]; exact h) (by rw [← hv]; exact hR)); rw [← hv] at HSB hvn hlv hv0; rw [← hN] at HSA hN1 hN2; rw [← hv, ← hN] at hNv; obtain ⟨ad2, rfl, hcy⟩ := h2.at_ (k := ln b - 1) (by omega); rw [← hy] at hcy; obtain ⟨la, hla⟩ : ∃ la, la = ln a := ⟨_, rfl⟩; obtain ⟨lb, hlbq⟩ : ∃ lb, lb = ln b := ⟨_, rfl⟩; rw [← hla] at HSA HCMP hlab hNv hN1 hN2 l1 ⊢; rw [← hlbq] at HSB HCMP hlab hNv hlb hvn hlv hcy ⊢; have HLV := Hd.mk hlv; have HVN := Hd.mk hvn; have HNV := Hd.mk hNv
 have hcvp : 0 ≤ cmpv a b := by
  unfold cmpv; rw [if_neg (show ¬ a < b by omega)]; split <;> omega
 obtain ⟨cv, hcv⟩ : ∃ cv, cv = cmpv a b := ⟨_, rfl⟩; have hcv0 : 0 ≤ cv := by rw [hcv]; exact hcvp
 rw [← hcv] at HCMP; have hlb1 : ((lb : Int) == 1) = false := by rw [beq_eq_false_iff_ne]; omega
 obtain ⟨d1, hd1⟩ : ∃ d, d = a / b := ⟨_, rfl⟩; obtain ⟨d2, hd2⟩ : ∃ d, d = a % b := ⟨_, rfl⟩; rw [← hd1, ← hd2] at HEND ⊢; have hq1le : ln d1 ≤ la := by rw [hd1, hla]; exact ln_mono (Nat.div_le_self _ _)
 clear hcvp hcv hla hlbq hv hN hs hy hlz hb0 hle h1 h2 hlv hNv hvn hd1 hd2; obtain ⟨L1, hL1⟩ : ∃ P, P = lb - 1 := ⟨_, rfl⟩; have i4 : (lb : Int) - 1 = (L1 : Int) := by omega
 have HL1 := Hd.mk hL1; rw [← hL1] at hcy; clear hL1; obtain ⟨lN, hlN⟩ : ∃ lN, lN = ln N := ⟨_, rfl⟩; rw [← hlN] at hN1 hN2; have HLN := Hd.mk hlN; clear hlN; go_enter Tryz.func72, Tryz.ntmps72
 go_wp2_with fail
 refine (HCMP.out _ (Below.refl _ _)).mono ?_; rintro e w1 ⟨rfl, q0, rfl⟩; go_wp2_with fail
 refine (HLZ.out _).mono ?_; rintro e w1 ⟨rfl, rfl⟩; go_wp2_with fail
 refine (HSB.out _ (by repeat (first | exact HB.out | exact Below.refl _ _ | refine below_alloc ?_ _ | refine below_drewN ?_ _ | refine below_drew ?_ | refine below_set ?_ (by first | exact Nat.le_refl _ | omega | (simp; done) | (simp; omega)) _))).mono ?_; rintro e w1 ⟨vv, rfl, hov, hb1⟩; have HB1 : Hd (Below w.heap.size w w1) := ⟨bel_then (by repeat (first | exact HB.out | exact Below.refl _ _ | refine below_alloc ?_ _ | refine below_drewN ?_ _ | refine below_drew ?_ | refine below_set ?_ (by first | exact Nat.le_refl _ | omega | (simp; done) | (simp; omega)) _)) hb1⟩; rw [HLV.out] at hov; have hovl : w1.ownsRow w.heap.size 46 1 vv (dig v).length (cells (dig v)) := by rw [dig_length, HLV.out]; exact hov
 obtain ⟨Av, cvv, hvv, hrv, hcv1, hcv2⟩ := own_slice hovl
 have hbv : ∀ g, Av = some g → g.block < w1.heap.size := by
  intro g hg; obtain ⟨_, h, hc⟩ := hrv (by rw [dig_length, HLV.out]; omega); rw [hg] at h; cases h
  have := World.block_lt_of_cell? _ _ (hc 0 (by rw [dig_length, HLV.out]; omega)); rwa [block_add] at this
 have hvv2 : vv = .slice Av lb cvv := by rw [hvv, dig_length, HLV.out]
 subst hvv2; have HNV1 : Hd (NN w1 Av cvv v) := ⟨⟨hrv, by rw [← dig_length]; exact hcv1, hcv2⟩⟩; have HBV := Hd.mk hbv; clear hov hb1 hovl hvv hrv hbv; go_wp2_with fail
 refine (HSA.out _ HB1.out).mono ?_; rintro e w2 ⟨uu, rfl, hou, hb2⟩; have HO := Hd.mk hou; have HB2 := Hd.mk hb2; clear hou hb2; obtain ⟨i0, hi, hz0, hz1, hz2⟩ := info_parts Tryz.info_word; have HR0 := Hd.mk (Blk.reads (ds := [0, 0]) (heap_alloc_new w2 (.cells (cells [0, 0]).toArray 46))); go_wp2_with (first | (at_builtin; refine wpList_append_any _ rfl (.tmp 42) (.tmp 43) 49 rfl w1.heap.size 46 i0 (.int .u32 0) 1 4 Tryz.underlying49 hi hz0 hz1 hz2 rfl (by decide) uu lN (cells (dig N)) rfl ((by rw [HLN.out]; exact HO.out : w2.ownsRow w1.heap.size 46 1 uu lN (cells (dig N))).alloc _) _ (some ⟨w2.heap.size, 0, none⟩) 2 2 (cells [0, 0]) rfl HR0.out.reads (cells_one _) (by unfold maxLen; omega) (by omega) (by have := HB2.out.size; simp; omega) ?_; intro v1 w3 hown1 hg1 hat1; obtain ⟨gU, cu, post0, rfl, hgU, hcu1, hcu2, hblk0, hgUl⟩ := own_block hown1 (by omega); have HU0 := Hd.mk hblk0; have HG1 := Hd.mk hg1; have hcu3 : (la : Int) + 1 ≤ (cu : Int) := (by omega); have HB3 : Hd (Below w1.heap.size w1 w3) := ⟨(below_alloc HB2.out _).grown HG1.out (by have := HB2.out.size; simp; omega) (own_ge HO.out)⟩; have HMK := Hd.mk (fun W => make_words 49 Tryz.underlying49 ((la : Int) - (lb : Int) + 1) (la - lb + 1) (by omega) (by omega) W); have hmk := HMK.out; clear hown1 hg1 hat1 hblk0))
 clear hmk; have HFAR : Hd (Far Av gU) := ⟨fun ad h => by have := HBV.out ad h; omega⟩; have HFAR2 : Hd (Far Av w3.heap.size) := ⟨fun ad h => by have := HBV.out ad h; omega⟩; have HNV3 := Hd.mk (HNV1.out.to HB3.out)
 -- the row of the dividend
 obtain ⟨us0, hus0⟩ : ∃ us0, us0 = (dig N ++ [0, 0]).take (la + 1) := ⟨_, rfl⟩; obtain ⟨post, hpost⟩ : ∃ p, p = cells ((dig N ++ [0, 0]).drop (la + 1)) ++ post0 := ⟨_, rfl⟩; have hlen0 : (dig N ++ [0, 0]).length = lN + 2 := by rw [List.length_append, dig_length, ← HLN.out]; rfl
 have hul : us0.length = la + 1 := by rw [hus0, List.length_take, hlen0]; omega
 have hdg0 : Dg (dig N ++ [0, 0]) := dg_append (dg_dig N) (by intro x hx; simp at hx; subst hx; exact B_pos); have hud : Dg us0 := by rw [hus0]; exact dg_take hdg0 _
 have huv : val us0 = N := by
  rw [hus0, val_take_mod hdg0, val_append, val_dig, show val [0, 0] = 0 from rfl, Nat.mul_zero, Nat.add_zero]; apply Nat.mod_eq_of_lt; exact Nat.lt_of_lt_of_le (lt_pow_ln N) (Nat.pow_le_pow_right B_pos (by rw [← HLN.out]; exact hN1))
 have hU3 : Blk w3 gU 46 (cells us0 ++ post) := by
  have := HU0.out; rw [← cells_append, ← List.take_append_drop (la + 1) (dig N ++ [0, 0]), cells_append, List.append_assoc, ← hus0, ← hpost] at this; exact this
 have HU := Hd.mk hU3; have HUL := Hd.mk hul; have HUD := Hd.mk hud; have HUV := Hd.mk huv; have HL0 := Hd.mk (long_start (qs := List.replicate (la - lb + 1) 0) huv HNV.out (by rw [List.length_replicate]; exact Nat.le_refl _)); have hgUw : w.heap.size ≤ gU := Nat.le_trans HB1.out.size hgU; have HBW : Hd (Below w.heap.size w w3) := ⟨below_then HB1.out HB1.out.size HB3.out⟩; clear hus0 hpost hlen0 hul hdg0 hud huv hU3 HU0 HG1 HMK HNV1 HBV HO HB2 HR0 HB3 HNV hcy; have hne : gU ≠ w3.heap.size := by omega
 go_loopw [11] (fun s11 wr => ∃ (k : Nat) (us qs : List Nat), k ≤ la - lb + 1 ∧ s11 = .int .i64 ((k : Int) - 1) ∧ us.length = la + 1 ∧ Dg us ∧ qs.length = la - lb + 1 ∧ Dg qs ∧ Long N v k us qs ∧ Blk wr gU 46 (cells us ++ post) ∧ Blk wr w3.heap.size 46 (cells qs) ∧ NN wr Av cvv v ∧ Below w.heap.size w wr) (fun s _ => (intOf s + 1).toNat)
 case atStart => exact ⟨la - lb + 1, us0, List.replicate (la - lb + 1) 0, Nat.le_refl _, by congr 1; omega, HUL.out, HUD.out, by simp, dg_zeros _, HL0.out, HU.out.alloc _, heap_alloc_new w3 _, HNV3.out.to (below_alloc (Below.refl _ _) _), below_alloc HBW.out _⟩
 case round =>
  obtain ⟨k, us, qs, hk, rfl, hul, hud, hql, hqd, hlong, hU, hQ, hNv, hbel⟩ := hrel; have HUL := Hd.mk hul; have HUD := Hd.mk hud; have HQL := Hd.mk hql; have HQD := Hd.mk hqd; have HLG := Hd.mk hlong; have HU := Hd.mk hU; have HQ := Hd.mk hQ; have HNVr := Hd.mk hNv; have HB := Hd.mk hbel; clear hul hud hql hqd hlong hU hQ hNv hbel; rcases k with _ | j
  ·have hend : val qs = d1 ∧ val us / 2 ^ s = d2 := by
    obtain ⟨h1, h2⟩ := HLG.out; rw [List.drop_zero, Nat.pow_zero, Nat.one_mul] at h1; rw [Nat.pow_zero, Nat.mul_one] at h2; exact HEND.out _ _ h1 h2
   have hc1 := norm_calls (some ⟨w3.heap.size, 0, none⟩) (la - lb + 1) qs wr HQ.out.reads HQD.out (by have := HQL.out; omega) (by omega); rw [HQL.out, hend.1] at hc1; have hc2 := norm_calls (some ⟨gU, 0, none⟩) cu us wr HU.out.readsP HUD.out (by have := HUL.out; omega) hcu2; rw [HUL.out] at hc2; have hr1 := HQ.out.reads.of_take HQD.out; rw [hend.1] at hr1
   have hd1l : ln d1 ≤ la - lb + 1 := by
    rw [← hend.1]; have := val_lt HQD.out; rw [HQL.out] at this; exact ln_le this
   have hul : ln (val us) ≤ la + 1 := by
    have := val_lt HUD.out; rw [HUL.out] at this; exact ln_le this
   have HN1 : Hd (NN wr (some ⟨w3.heap.size, 0, none⟩) (la - lb + 1) d1) := ⟨⟨hr1, hd1l, by omega⟩⟩; have HN2 : Hd (NN wr (some ⟨gU, 0, none⟩) cu (val us)) := ⟨⟨HU.out.readsP.of_take HUD.out, by omega, hcu2⟩⟩; have HSH := Hd.mk (shr_calls (some ⟨gU, 0, none⟩) cu (val us) s wr HN2.out (by omega) hs32); rw [hend.2] at HSH; have HC1 := Hd.mk hc1; have HC2 := Hd.mk hc2; clear hc1 hc2 hr1 hend; go_wp2_with fail
   refine HC1.out.mono ?_; rintro e wr' ⟨rfl, rfl⟩; go_wp2_with fail
   refine HC2.out.mono ?_; rintro e wr' ⟨rfl, rfl⟩; go_wp2_with fail
   refine HSH.out.mono ?_; rintro e wz ⟨A9, c9, rfl, hn9, hb9⟩; have HN9 := Hd.mk hn9; have HB9 := Hd.mk hb9; clear hn9 hb9; go_wp2_with fail
   go_ret2
   exact ⟨_, _, A9, c9, rfl, HN1.out.to HB9.out, HN9.out, bel_then HB.out HB9.out⟩
  have hjn : j + lb ≤ la := by omega
  have e5 : ((j + 1 : Nat) : Int) - 1 = (j : Int) := by omega
  rw [e5]; clear e5; obtain ⟨wo, hwo⟩ : ∃ wo : World, wo = wr := ⟨_, rfl⟩; subst hwo; obtain ⟨P, hP⟩ : ∃ P, P = j + lb := ⟨_, rfl⟩; obtain ⟨P1, hP1⟩ : ∃ P, P = j + lb - 1 := ⟨_, rfl⟩; obtain ⟨P0, hP0⟩ : ∃ P, P = j + lb - 2 := ⟨_, rfl⟩; obtain ⟨L0, hL0⟩ : ∃ P, P = lb - 2 := ⟨_, rfl⟩; have i1 : (j : Int) + (lb : Int) = (P : Int) := by omega
  have i2 : (P : Int) - 1 = (P1 : Int) := by omega
  have i3 : (P : Int) - 2 = (P0 : Int) := by omega
  have i5 : (lb : Int) - 2 = (L0 : Int) := by omega
  have i6 : IntKind.i64.wrap (P : Int) = (P : Int) := IntWalk.i64_in _ (by omega); have i7 : IntKind.i64.wrap (P1 : Int) = (P1 : Int) := IntWalk.i64_in _ (by omega); have i8 : IntKind.i64.wrap (P0 : Int) = (P0 : Int) := IntWalk.i64_in _ (by omega); have i9 : IntKind.i64.wrap (L0 : Int) = (L0 : Int) := IntWalk.i64_in _ (by omega); have hPl : P < la + 1 := by omega
  have hP1l : P1 < la + 1 := by omega
  have hP0l : P0 < la + 1 := by omega
  have hL1l : L1 < lb := by have := HL1.out; omega
  have hL0l : L0 < lb := by omega
  obtain ⟨x2, hx2⟩ : ∃ x, x = us.getD (j + lb) 0 := ⟨_, rfl⟩; obtain ⟨x1, hx1⟩ : ∃ x, x = us.getD (j + lb - 1) 0 := ⟨_, rfl⟩; obtain ⟨x0, hx0⟩ : ∃ x, x = us.getD (j + lb - 2) 0 := ⟨_, rfl⟩; obtain ⟨v1, hv1⟩ : ∃ x, x = (dig v).getD (lb - 1) 0 := ⟨_, rfl⟩; obtain ⟨v2, hv2⟩ : ∃ x, x = (dig v).getD (lb - 2) 0 := ⟨_, rfl⟩; obtain ⟨top, htop⟩ : ∃ x, x = x2 * 4294967296 + x1 := ⟨_, rfl⟩; have HDG := Hd.mk (digit_of (by omega) HUL.out HUD.out hjn HVN.out HLV.out HLG.out hx2 hx1 hx0 hv1 hv2 htop); have cx2 := HU.out.atP (i := j + lb) (by have := HUL.out; omega); have cx1 := HU.out.atP (i := j + lb - 1) (by have := HUL.out; omega); have cx0 := HU.out.atP (i := j + lb - 2) (by have := HUL.out; omega); rw [← hx2, ← hP] at cx2; rw [← hx1, ← hP1] at cx1; rw [← hx0, ← hP0] at cx0; obtain ⟨adv, rfl, cv1⟩ := HNVr.out.at_ (k := lb - 1) (by have := HLV.out; omega); obtain ⟨adv2, hadv2, cv2⟩ := HNVr.out.at_ (k := lb - 2) (by have := HLV.out; omega); cases hadv2
  rw [← hv1, ← HL1.out] at cv1; rw [← hv2, ← hL0] at cv2; have hx2l := HDG.out.x2l; have hx1l := HDG.out.x1l; have hv1l := HDG.out.v1l; have hv1p := HDG.out.v1p; have htl := HDG.out.topl; have itop : bits .or .u64 ((x2 : Int) * 4294967296) (x1 : Int) = (top : Int) := by rw [or_high x2 x1 hx1l hx2l, htop]
  have itop2 : (x2 : Int) * 4294967296 ≤ 18446744073709551615 := by omega
  have itop3 : IntKind.u64.wrap ((x2 : Int) * 4294967296) = (x2 : Int) * 4294967296 := by rw [IntKind.wrap_u64]; omega
  have HPJ : Hd (P + 1 - j = lb + 1) := ⟨by omega⟩; clear hP hP1 hP0 hL0 hx2 hx1 hx0 hv1 hv2 htop; obtain ⟨W, hWq⟩ : ∃ W, W = val ((us.drop j).take (lb + 1)) := ⟨_, rfl⟩; rw [← hWq] at HDG; have HWQ := Hd.mk hWq; clear hWq; go_wp2_with fail
  go_quiet (fail)
  go_upto_region 14 with fail
  go_cut [13] (fun s wx => ∃ g : Nat, s = .int .u64 (g : Int) ∧ W / v ≤ g ∧ g * v1 ≤ top ∧ g < 4294967296 ∧ ∃ q, wx = wo.drewN q)
  case first => as_aux_lemma =>
   obtain ⟨tq, htq⟩ : ∃ t, t = top / v1 := ⟨_, rfl⟩; have e1 : (top : Int) / (v1 : Int) = (tq : Int) := by rw [htq]; exact (Int.natCast_ediv _ _).symm
   have hin := HDG.out.init; rw [← htq] at hin; have HIN := Hd.mk hin; have HM : Hd (tq * v1 ≤ top) := ⟨by rw [htq]; exact Nat.div_mul_le_self _ _⟩; have hv10 : ((v1 : Int) == 0) = false := by rw [beq_eq_false_iff_ne]; omega
   have htql : tq ≤ 18446744073709551615 := by rw [htq]; exact Nat.le_trans (Nat.div_le_self _ _) htl
   clear htq hin; by_cases hlt : 4294967295 < tq
   ·have hlt' : (4294967295 : Int) < (tq : Int) := by omega
    go_wp2_with fail
    go_meet
    refine ⟨4294967295, rfl, Nat.le_trans HIN.out (Nat.min_le_right _ _), Nat.le_trans (Nat.mul_le_mul_right _ (by omega)) HM.out, by omega, _, rfl⟩
   have hlt' : ¬ (4294967295 : Int) < (tq : Int) := by omega
   go_wp2_with fail
   go_meet
   exact ⟨tq, rfl, Nat.le_trans HIN.out (Nat.min_le_left _ _), HM.out, by omega, _, rfl⟩
  case rest => as_aux_lemma =>
   obtain ⟨g0, rfl, hg1, hg2, hg3, qd, rfl⟩ := hcut; obtain ⟨gv, hgv⟩ : ∃ t, t = g0 * v1 := ⟨_, rfl⟩; have e1 : (g0 : Int) * (v1 : Int) = (gv : Int) := by rw [hgv]; exact (Int.natCast_mul _ _).symm
   rw [← hgv] at hg2; obtain ⟨r0, hr0⟩ : ∃ t, t = top - gv := ⟨_, rfl⟩; have e2 : (top : Int) - (gv : Int) = (r0 : Int) := by omega
   have HS : Hd (g0 * v1 + r0 = top) := ⟨by rw [← hgv]; omega⟩; have HG1 := Hd.mk hg1; have hr0l : r0 ≤ 18446744073709551615 := by omega
   clear hgv hr0 hg1; go_wp2_with fail
   go_loopw [13, 14] (fun s13 s14 wx => ∃ (g rest : Nat), s13 = .int .u64 (g : Int) ∧ s14 = .int .u64 (rest : Int) ∧ g < 4294967296 ∧ g * v1 + rest = top ∧ W / v ≤ g ∧ ∃ q, wx = wo.drewN q) (fun _ s14 _ => (4294967296 - intOf s14).toNat)
   case atStart => exact ⟨g0, r0, rfl, rfl, hg3, HS.out, HG1.out, _, rfl⟩
   case round => as_aux_lemma =>
    obtain ⟨g, rest, rfl, rfl, hg3, hs, hg1, qe, rfl⟩ := hrel; have HSS := Hd.mk hs; have HGG := Hd.mk hg1; have hrl : rest ≤ 18446744073709551615 := by omega
    have hgv1 : g * v1 ≤ top := by omega
    have HGV := Hd.mk hgv1; clear hs hg1 hgv1 HS HG1; have hv2l := HDG.out.v2l; have hx0l := HDG.out.x0l; obtain ⟨gw, hgw⟩ : ∃ t, t = g * v2 := ⟨_, rfl⟩; have hgwl : gw ≤ 18446744065119617025 := by rw [hgw]; exact (mul_fits hg3 hv2l (by omega : 0 < 4294967296) (by omega : 0 < 4294967296)).1
    have e3 : (g : Int) * (v2 : Int) = (gw : Int) := by rw [hgw]; exact (Int.natCast_mul _ _).symm
    obtain ⟨cnd, hcnd⟩ : ∃ c, c = decide (rest < 4294967296 ∧ rest * 4294967296 + x0 < gw) := ⟨_, rfl⟩; have HCND := Hd.mk hcnd; have HGW := Hd.mk hgw; clear hcnd hgw; go_upto_region 16 with fail
    go_cut [124] (fun s wx => s = .bool cnd ∧ ∃ q, wx = wo.drewN q)
    case first => as_aux_lemma =>
     by_cases hr : rest < 4294967296
     ·have hr' : decide ((rest : Int) < 4294967296) = true := decide_eq_true (by omega); obtain ⟨rx, hrx⟩ : ∃ t, t = rest * 4294967296 + x0 := ⟨_, rfl⟩; have e4 : bits .or .u64 ((rest : Int) * 4294967296) (x0 : Int) = (rx : Int) := by rw [or_high rest x0 hx0l hr, hrx]
      have e5 : IntKind.u64.wrap ((rest : Int) * 4294967296) = (rest : Int) * 4294967296 := by rw [IntKind.wrap_u64]; omega
      have e6 : IntKind.u64.wrap (gw : Int) = (gw : Int) := by rw [IntKind.wrap_u64]; omega
      have hr2 : (rest : Int) * 4294967296 ≤ 18446744073709551615 := by omega
      by_cases hlt : rx < gw
      ·have HC : Hd (cnd = true) := ⟨by rw [HCND.out]; exact decide_eq_true ⟨hr, by omega⟩⟩; have hlt' : decide (rx < gw) = true := decide_eq_true hlt; clear hrx hr hlt; go_quiet (fail)
       go_wp2_with fail
       go_meet
       exact ⟨by rw [HC.out], _, by rw [World.drewN_drewN]⟩
      have HC : Hd (cnd = false) := ⟨by rw [HCND.out]; exact decide_eq_false (fun h => by omega)⟩; have hlt' : decide (rx < gw) = false := decide_eq_false hlt; clear hrx hr hlt; go_quiet (fail)
      go_wp2_with fail
      go_meet
      exact ⟨by rw [HC.out], _, by rw [World.drewN_drewN]⟩
     have hr' : decide ((rest : Int) < 4294967296) = false := decide_eq_false (by omega); have HC : Hd (cnd = false) := ⟨by rw [HCND.out]; exact decide_eq_false (fun h => hr h.1)⟩; clear hr; go_quiet (fail)
     go_wp2_with fail
     go_meet
     exact ⟨by rw [HC.out], _, by rw [World.drewN_drewN]⟩
    case rest => as_aux_lemma =>
     obtain ⟨rfl, qf, rfl⟩ := hcut; rcases cnd with _ | _
     ·have HX : Hd (4294967296 ≤ rest ∨ g * v2 ≤ rest * 4294967296 + x0) := ⟨by
       have h := of_decide_eq_false HCND.out.symm; rw [← HGW.out]
       omega⟩
      have HFIX := Hd.mk (HDG.out.fix g rest HSS.out HGG.out hg3 HX.out); have hsl : ((us.drop j).take (lb + 1)).length = lb + 1 := by rw [List.length_take, List.length_drop, HUL.out]; omega
      have hBk : Blk (wo.drewN qf) gU 46 (cells (us.take j) ++ (cells ((us.drop j).take (lb + 1)) ++ (cells ((us.drop j).drop (lb + 1)) ++ post))) := by
       rw [← seg_split]; exact HU.out.drewN qf
      have HBK := Hd.mk hBk; have HSL := Hd.mk hsl; have HPL : Hd ((cells (us.take j)).length = j) := ⟨by rw [cells_length, List.length_take, HUL.out]; omega⟩; have HTK := Hd.mk (take_calls gU j (lb + 1) (cu - j) (cells (us.take j)) (cells ((us.drop j).drop (lb + 1)) ++ post) ((us.drop j).take (lb + 1)) (some adv) cvv v g (wo.drewN qf) HPL.out hsl (dg_take (dg_drop HUD.out _) _) hBk (HNVr.out.to (below_drewN (Below.refl _ _) _)) HFAR.out (by omega) (by omega) (by omega) (by rw [HLV.out]; omega) hg3); rw [HLV.out] at HTK; obtain ⟨gvv, hgvv⟩ : ∃ x, x = g * v := ⟨_, rfl⟩; rw [← hgvv] at HFIX; have HGVV := Hd.mk hgvv; clear HCND HX e3 HGW hBk hsl hgvv; go_wp2_with fail
      rw [HPJ.out]; refine HTK.out.mono ?_; rintro e wt ⟨rfl, ds, hdl, hdd, hval, hblk, hgr⟩; rw [← HWQ.out, ← HGVV.out] at hval; rw [← HWQ.out, ← HGVV.out]; have HDL := Hd.mk hdl; have HDD := Hd.mk hdd; have HVL := Hd.mk hval; have HBT := Hd.mk hblk; have HGR := Hd.mk hgr; have HQT := Hd.mk ((HQ.out.drewN qf).only hgr (Ne.symm hne)); clear hdl hdd hval hblk hgr HTK HBK; by_cases hW : W < gvv
      ·have hWd : decide (W < gvv) = true := decide_eq_true hW; rw [hWd]; obtain ⟨hg1, hfx1, hfx2⟩ := HFIX.out.1 hW; obtain ⟨g2, hg2⟩ : ∃ x, x = g - 1 := ⟨_, rfl⟩; have e6 : (g : Int) - 1 = (g2 : Int) := by omega
       have hg2l : g2 < 4294967296 := by omega
       have HGV := Hd.mk (give_calls gU j (lb + 1) (cu - j) (cells (us.take j)) (cells ((us.drop j).drop (lb + 1)) ++ post) ds (some adv) cvv v wt HPL.out HDL.out HDD.out HBT.out ((HNVr.out.to (below_drewN (Below.refl _ _) qf)).only HGR.out HFAR.out) HFAR.out (by omega) (by omega) (by omega) (by rw [HLV.out]; omega)); rw [HLV.out] at HGV; have HFN := Hd.mk (fun d2 e2 => fit_no (W := W) (q := g) (v := v) (L := lb + 1) (d := val ds) (d2 := d2) (by rw [HGVV.out] at hW; exact hW) (by rw [← HGVV.out]; exact HVL.out) hg1 hfx1 hfx2 (Nat.lt_of_lt_of_le HVN.out (Nat.pow_le_pow_right B_pos (by omega))) e2); rw [← hg2] at HFN; clear hWd hW hg1 hfx1 hfx2 hg2 HFIX; go_wp2_with fail
       rw [HPJ.out]; refine HGV.out.mono ?_; rintro e wu ⟨rfl, ds2, hdl2, hdd2, hval2, hblk2, hgr2⟩; have HDL2 := Hd.mk hdl2; have HDD2 := Hd.mk hdd2; have HBT2 := Hd.mk hblk2; have HGR2 := Hd.mk hgr2; have HFY := Hd.mk (HFN.out _ hval2); have HQT2 := Hd.mk (HQT.out.only hgr2 (Ne.symm hne)); clear hdl2 hdd2 hval2 hblk2 hgr2 HGV HFN; have cq := HQT2.out.at_ (i := j) (by have := HQL.out; omega); have fq := HQT2.out.frozen j; have HQP := Hd.mk (HQT2.out.put j g2); have HLS := Hd.mk (long_step (g := g2) (ds := ds2) HUL.out HUD.out HVN.out (by omega) (by have := HQL.out; omega) HLG.out (by rw [← HWQ.out]; exact HFY.out.1) HFY.out.2 rfl HDL2.out); have hgm : (g2 : Int) % 4294967296 = (g2 : Int) := by omega
       go_wp2_with fail
       go_roundw
       case rel =>
        refine ⟨j, us.take j ++ (ds2 ++ (us.drop j).drop (lb + 1)), qs.set j g2, by omega, rfl, len_join HUL.out HDL2.out hjn, dg_join HUD.out HDD2.out, by rw [List.length_set]; exact HQL.out, dg_set HQD.out _ hg2l, HLS.out, ?_, HQP.out, ?_, ?_⟩
        ·rw [← seg_join]; exact HBT2.out.far hne _
        ·exact ((((HNVr.out.to (below_drewN (Below.refl _ _) qf)).only HGR.out HFAR.out).only HGR2.out HFAR.out).only (only_setCell (World.grownBy.refl _ _) rfl _) HFAR2.out)
        exact below_set (((below_drewN HB.out qf).grown HGR.out HB.out.size (fun _ h => by cases h; exact hgUw)).grown HGR2.out (Nat.le_trans HB.out.size HGR.out.size) (fun _ h => by cases h; exact hgUw)) HBW.out.size _
       case measure => simp [intOf]
      have hWd : decide (W < gvv) = false := decide_eq_false hW; have HFY := Hd.mk (fit_yes (by rw [HGVV.out] at hW; exact hW) (by rw [← HGVV.out]; exact HVL.out) (by rw [← HGVV.out]; exact HFIX.out.2 hW)); rw [hWd]; have cq := HQT.out.at_ (i := j) (by have := HQL.out; omega); have fq := HQT.out.frozen j; have HQP := Hd.mk (HQT.out.put j g); have HLS := Hd.mk (long_step (g := g) (ds := ds) HUL.out HUD.out HVN.out (by omega) (by have := HQL.out; omega) HLG.out (by rw [← HWQ.out]; exact HFY.out.1) HFY.out.2 rfl HDL.out); have hgm : (g : Int) % 4294967296 = (g : Int) := by omega
      clear hWd hW; go_wp2_with fail
      go_roundw
      case rel =>
       refine ⟨j, us.take j ++ (ds ++ (us.drop j).drop (lb + 1)), qs.set j g, by omega, rfl, len_join HUL.out HDL.out hjn, dg_join HUD.out HDD.out, by rw [List.length_set]; exact HQL.out, dg_set HQD.out _ hg3, HLS.out, ?_, HQP.out, ?_, ?_⟩
       ·rw [← seg_join]; exact HBT.out.far hne _
       ·exact (((HNVr.out.to (below_drewN (Below.refl _ _) qf)).only HGR.out HFAR.out).only (only_setCell (World.grownBy.refl _ _) rfl _) HFAR2.out)
       exact below_set ((below_drewN HB.out qf).grown HGR.out HB.out.size (fun _ h => by cases h; exact hgUw)) HBW.out.size _
      case measure => simp [intOf]
     have hk := of_decide_eq_true HCND.out.symm; have hst := HDG.out.step g rest HSS.out HGG.out (by rw [← HGW.out]; exact hk.2); have hg0 : 1 ≤ g := hst.1; have HST := Hd.mk hst.2; have hrs : rest < 4294967296 := hk.1
     have HS2 : Hd ((g - 1) * v1 + (rest + v1) = top) := ⟨by
      have h := HSS.out; have e : (g - 1) * v1 + v1 = g * v1 := by rw [← Nat.succ_mul]; congr 1; omega
      omega⟩
     obtain ⟨g2, hg2⟩ : ∃ x, x = g - 1 := ⟨_, rfl⟩; obtain ⟨r2, hr2⟩ : ∃ x, x = rest + v1 := ⟨_, rfl⟩; have e6 : (g : Int) - 1 = (g2 : Int) := by omega
     have e7 : (rest : Int) + (v1 : Int) = (r2 : Int) := by omega
     rw [← hg2, ← hr2] at HS2; rw [← hg2] at HST; have hr2l : r2 ≤ 18446744073709551615 := by omega
     have hg2l : g2 < 4294967296 := by omega
     have hr2m : 4294967296 - r2 < 4294967296 - rest := by omega
     clear hk hst HCND HGW e3 hg2 hr2; go_wp2_with fail
     go_roundw
     case rel => exact ⟨g2, r2, rfl, rfl, hg2l, HS2.out, HST.out, _, rfl⟩
     case measure => simp [intOf]; omega
end Go.Proofs.YtdfhhceboacdcaaGreatDoor
set_option linter.unusedVariables false
namespace Go.Proofs.YtdfhhceboacdcaaGreatDoor
open Go.RowKit
theorem ln_one_dig {b : Nat} (h : ln b = 1) : (dig b).getD 0 0 = b ∧ b < 4294967296 := by
 have hb : b ≠ 0 := fun e => by rw [e, ln_zero] at h; omega
 have h1 := lt_pow_ln b; rw [h, Nat.pow_one] at h1; refine ⟨?_, h1⟩; rw [dig_getD, Nat.pow_zero, Nat.div_one]; exact Nat.mod_eq_of_lt h1
set_option maxHeartbeats 1000000 in
set_option maxRecDepth 100000 in
theorem div_calls (A1 : Option Addr) (c1 a : Nat) (A2 : Option Addr) (c2 b : Nat) (w : World) (h1 : NN w A1 c1 a) (h2 : NN w A2 c2 b) (hb0 : b ≠ 0) (l1 : ln a ≤ 268435456) :
  Calls Tryz.prog 72 #[.slice A1 (ln a) c1, .slice A2 (ln b) c2] w (RetNN (a / b) (a % b) w) := by
 by_cases hlt : a < b
 ·have hq : a / b = 0 := Nat.div_eq_of_lt hlt; have hr : a % b = a := Nat.mod_eq_of_lt hlt; rw [hq, hr]; have hv : cmpv a b = -1 := by unfold cmpv; rw [if_pos hlt]
  have hc := cmp_calls A1 c1 a A2 c2 b w h1 h2; rw [hv] at hc; have HCMP := Hd.mk hc; have H1 := Hd.mk h1; clear h1 h2 hlt hb0 hq hr hv hc; go_enter Tryz.func72, Tryz.ntmps72
  go_wp2_with fail
  refine HCMP.out.mono ?_; rintro e w1 ⟨rfl, q0, rfl⟩; go_wp2_with fail
  go_ret2
  exact ⟨none, 0, A1, c1, by rw [ln_zero]; rfl, NN.nil _ _ _ (by omega), H1.out.to (by repeat (first | exact Below.refl _ _ | refine below_alloc ?_ _ | refine below_drewN ?_ _)), by repeat (first | exact Below.refl _ _ | refine below_alloc ?_ _ | refine below_drewN ?_ _)⟩
 by_cases hl : 2 ≤ ln b
 ·exact div_long A1 c1 a A2 c2 b w h1 h2 (by omega) hl l1
 have hl1 : ln b = 1 := by
  have : ln b ≠ 0 := fun h => hb0 (ln_eq_zero.1 h)
  omega
 obtain ⟨hbd, hbl⟩ := ln_one_dig hl1; obtain ⟨ad, rfl, hcell⟩ := h2.at_ (k := 0) (by omega); rw [hbd, Addr.add_zero'] at hcell
 have hcp : 0 ≤ cmpv a b := by
  unfold cmpv; rw [if_neg hlt]; split <;> omega
 have hc := cmp_calls A1 c1 a (some ad) c2 b w h1 h2; obtain ⟨cv, hcv⟩ : ∃ cv, cv = cmpv a b := ⟨_, rfl⟩; rw [← hcv] at hc hcp; rw [hl1] at hc ⊢; have HCMP := Hd.mk hc; have HSH := Hd.mk (fun W (hW : Below w.heap.size w W) => short_calls A1 c1 a b W (h1.to hW) (by omega) (by omega) hbl); clear h1 h2 hlt hb0 hcv hc hl hl1 hbd; go_enter Tryz.func72, Tryz.ntmps72
 go_wp2_with fail
 refine HCMP.out.mono ?_; rintro e w1 ⟨rfl, q0, rfl⟩; go_wp2_with fail
 refine (HSH.out _ (by repeat (first | exact Below.refl _ _ | refine below_alloc ?_ _ | refine below_drewN ?_ _))).mono ?_; rintro e wz ⟨A8, c8, A9, c9, rfl, hn8, hn9, hb9⟩; have HN8 := Hd.mk hn8; have HN9 := Hd.mk hn9; have HB9 := Hd.mk hb9; clear hn8 hn9 hb9; go_wp2_with fail
 go_ret2
 exact ⟨A8, c8, A9, c9, rfl, HN8.out, HN9.out, bel_then (by repeat (first | exact Below.refl _ _ | refine below_alloc ?_ _ | refine below_drewN ?_ _)) HB9.out⟩
set_option linter.unusedSimpArgs false
theorem ediv_pos {x : Int} {M : Nat} (hM : 0 < M) {q r : Int} (h : x = (M : Int) * q + r) (h0 : 0 ≤ r) (h1 : r < (M : Int)) : x / (M : Int) = q ∧ x % (M : Int) = r :=
 (Int.ediv_emod_unique (by omega)).2 ⟨by omega, h0, h1⟩
theorem ediv_nat (x : Int) {M : Nat} (hM : 0 < M) {Q R : Nat} (hQ : Q = x.natAbs / M) (hR : R = x.natAbs % M) :
  (x < 0 → R ≠ 0 → x / (M : Int) = -((Q + 1 : Nat) : Int) ∧ x % (M : Int) = ((M - R : Nat) : Int)) ∧
  (x < 0 → R = 0 → x / (M : Int) = -(Q : Int) ∧ x % (M : Int) = 0) ∧
  (0 ≤ x → x / (M : Int) = (Q : Int) ∧ x % (M : Int) = (R : Int)) := by
 have hd : x.natAbs = M * Q + R := by rw [hQ, hR]; exact (Nat.div_add_mod _ _).symm
 have hlt : R < M := by rw [hR]; exact Nat.mod_lt _ hM
 have hd2 : (x.natAbs : Int) = (M : Int) * (Q : Int) + (R : Int) := by rw [hd]; simp
 clear hd hQ hR; refine ⟨fun hx hr => ?_, fun hx hr => ?_, fun hx => ?_⟩
 ·apply ediv_pos hM
  ·rw [Int.mul_neg, Int.natCast_add, Int.mul_add, Int.natCast_one, Int.mul_one, Int.ofNat_sub (by omega)]; omega
  ·omega
  omega
 ·apply ediv_pos hM
  ·rw [Int.mul_neg]; omega
  ·omega
  omega
 apply ediv_pos hM
 ·omega
 ·omega
 omega
theorem ediv_abs (x y : Int) (hy : y ≠ 0) :
  (x < 0 → x.natAbs % y.natAbs ≠ 0 → (x / y).natAbs = x.natAbs / y.natAbs + 1 ∧ (x % y).natAbs = y.natAbs - x.natAbs % y.natAbs) ∧
  (¬ (x < 0 ∧ x.natAbs % y.natAbs ≠ 0) → (x / y).natAbs = x.natAbs / y.natAbs ∧ (x % y).natAbs = x.natAbs % y.natAbs) := by
 have hM : 0 < y.natAbs := by omega
 obtain ⟨Q, hQ⟩ : ∃ Q, Q = x.natAbs / y.natAbs := ⟨_, rfl⟩; obtain ⟨R, hR⟩ : ∃ R, R = x.natAbs % y.natAbs := ⟨_, rfl⟩; obtain ⟨e1, e2, e3⟩ := ediv_nat x hM hQ hR; have hlt : R < y.natAbs := by rw [hR]; exact Nat.mod_lt _ hM
 have hq : (x / y).natAbs = (x / (y.natAbs : Int)).natAbs ∧ x % y = x % (y.natAbs : Int) := by
  by_cases h : 0 ≤ y
  ·have h : (y.natAbs : Int) = y := by omega
   rw [h]; exact ⟨rfl, rfl⟩
  have h : (y.natAbs : Int) = -y := by omega
  rw [h, Int.ediv_neg, Int.emod_neg]; exact ⟨(Int.natAbs_neg _).symm, rfl⟩
 rw [hq.1, hq.2, ← hQ, ← hR]; obtain ⟨A, hA⟩ : ∃ A, A = x / (y.natAbs : Int) := ⟨_, rfl⟩; obtain ⟨C, hC⟩ : ∃ C, C = x % (y.natAbs : Int) := ⟨_, rfl⟩; rw [← hA, ← hC] at e1 e2 e3 ⊢; clear hA hC hq hQ hR; refine ⟨fun hx hr => ?_, fun h => ?_⟩
 ·obtain ⟨a, b⟩ := e1 hx hr; omega
 by_cases hx : x < 0
 ·have hr : R = 0 := by
   by_cases h0 : R = 0
   ·exact h0
   exact absurd ⟨hx, h0⟩ h
  obtain ⟨a, b⟩ := e2 hx hr; omega
 obtain ⟨a, b⟩ := e3 (by omega); omega
theorem ediv_sign (x y : Int) (hy : y ≠ 0) : ((decide (x < 0) != decide (y < 0)) && !decide (ln (x / y).natAbs = 0)) = decide (x / y < 0) := by
 have hM : 0 < y.natAbs := by omega
 have hz : decide (ln (x / y).natAbs = 0) = decide (x / y = 0) := by
  apply decide_eq_decide.2; rw [ln_eq_zero]; exact Int.natAbs_eq_zero
 rw [hz]; obtain ⟨Q1, hQ1⟩ : ∃ Q, Q = x.natAbs / y.natAbs := ⟨_, rfl⟩; obtain ⟨R, hR⟩ : ∃ R, R = x.natAbs % y.natAbs := ⟨_, rfl⟩; obtain ⟨e1, e2, e3⟩ := ediv_nat x hM hQ1 hR
 have hs : (x < 0 → x / (y.natAbs : Int) ≤ 0) ∧ (0 ≤ x → 0 ≤ x / (y.natAbs : Int)) := by
  refine ⟨fun hx => ?_, fun hx => ?_⟩
  ·by_cases hr : R = 0
   ·rw [(e2 hx hr).1]; omega
   rw [(e1 hx hr).1]; omega
  rw [(e3 hx).1]; omega
 obtain ⟨Q, hQ⟩ : ∃ Q, Q = x / (y.natAbs : Int) := ⟨_, rfl⟩; rw [← hQ] at hs; clear e1 e2 e3 hR hQ1; by_cases hy0 : y < 0
 ·have : x / y = -Q := by
   rw [hQ, show (y.natAbs : Int) = -y by omega, Int.ediv_neg, Int.neg_neg]
  rw [this]; by_cases hx : x < 0
  ·have := hs.1 hx; simp [hx, hy0]; omega
  have := hs.2 (by omega); by_cases hq0 : Q = 0
  ·simp [hx, hy0, hq0]
  have h1 : 0 < Q := by omega
  simp [hx, hy0, hq0]; omega
 have : x / y = Q := by rw [hQ, show (y.natAbs : Int) = y by omega]
 rw [this]; by_cases hx : x < 0
 ·have := hs.1 hx; by_cases hq0 : Q = 0
  ·simp [hx, hy0, hq0]
  simp [hx, hy0, hq0]; omega
 have := hs.2 (by omega); simp [hx, hy0]; omega
theorem emod_sign (x y : Int) (hy : y ≠ 0) : decide (x % y < 0) = false := decide_eq_false (by have := Int.emod_nonneg x hy; omega)
section
variable {w W : World} {x0 x1 y0 y1 r0 r1 s0 s1 : Value} {t1 t2 t3 t4 : TypeId}
theorem boxes4 (h : W = (((w.alloc (.cells #[x0, x1] t1)).alloc (.cells #[y0, y1] t2)).alloc (.cells #[r0, r1] t3)).alloc (.cells #[s0, s1] t4)) : Blk W w.heap.size t1 [x0, x1] ∧ Blk W (w.heap.size + 1) t2 [y0, y1] ∧ Blk W (w.heap.size + 1 + 1) t3 [r0, r1] ∧ Blk W (w.heap.size + 1 + 1 + 1) t4 [s0, s1] ∧ Below w.heap.size w W := by
 obtain ⟨a, b, c, d⟩ := boxes3 (w := w) (x0 := x0) (x1 := x1) (y0 := y0) (y1 := y1) (r0 := r0) (r1 := r1) (t1 := t1) (t2 := t2) (t3 := t3) rfl; subst h; refine ⟨a.alloc _, b.alloc _, c.alloc _, ?_, below_alloc d _⟩; have h : (((w.alloc (.cells #[x0, x1] t1)).alloc (.cells #[y0, y1] t2)).alloc (.cells #[r0, r1] t3)).heap.size = w.heap.size + 1 + 1 + 1 := by simp
 rw [← h]; exact heap_alloc_new _ _
end
def RetZZ (z z2 : Int) (w : World) (e : Ending) (w' : World) : Prop := ∃ A c A' c', e = .returned (.tuple #[.agg #[.bool (decide (z < 0)), .slice A (ln z.natAbs) c], .agg #[.bool (decide (z2 < 0)), .slice A' (ln z2.natAbs) c']]) ∧ NN w' A c z.natAbs ∧ NN w' A' c' z2.natAbs ∧ Below w.heap.size w w'
theorem four_set {w1 : World} {g h : Nat} {x0 x1 y0 y1 : Value} (h0 : w1.cell? ⟨g, 0, none⟩ = some x0) (h1 : w1.cell? ⟨g, 1, none⟩ = some x1) (i0 : w1.cell? ⟨h, 0, none⟩ = some y0) (i1 : w1.cell? ⟨h, 1, none⟩ = some y1) (hne : g ≠ h) (u v u' v' : Value) :
  let w2 := (w1.setCell ⟨g, 0, none⟩ u).setCell ⟨g, 1, none⟩ v
  let w3 := (w2.setCell ⟨h, 0, none⟩ u').setCell ⟨h, 1, none⟩ v'
  w3.cell? ⟨g, 0, none⟩ = some u ∧ w3.cell? ⟨g, 1, none⟩ = some v ∧ w3.cell? ⟨h, 0, none⟩ = some u' ∧ w3.cell? ⟨h, 1, none⟩ = some v' ∧ (w1.setCell ⟨g, 0, none⟩ u).cell? ⟨g, 1, none⟩ = some x1 ∧ w2.cell? ⟨h, 0, none⟩ = some y0 ∧ (w2.setCell ⟨h, 0, none⟩ u').cell? ⟨h, 1, none⟩ = some y1 := by
 intro w2 w3; obtain ⟨a, b, c⟩ := two_set h0 h1 u v; have j0 : w2.cell? ⟨h, 0, none⟩ = some y0 := (World.cell?_setCell_other _ _ _ _ (by simp [hne, Ne.symm hne])).trans ((World.cell?_setCell_other _ _ _ _ (by simp [hne, Ne.symm hne])).trans i0); have j1 : w2.cell? ⟨h, 1, none⟩ = some y1 := (World.cell?_setCell_other _ _ _ _ (by simp [hne, Ne.symm hne])).trans ((World.cell?_setCell_other _ _ _ _ (by simp [hne, Ne.symm hne])).trans i1); obtain ⟨d, e, f⟩ := two_set j0 j1 u' v'; exact ⟨(World.cell?_setCell_other _ _ _ _ (by simp [hne, Ne.symm hne])).trans ((World.cell?_setCell_other _ _ _ _ (by simp [hne, Ne.symm hne])).trans a), (World.cell?_setCell_other _ _ _ _ (by simp [hne, Ne.symm hne])).trans ((World.cell?_setCell_other _ _ _ _ (by simp [hne, Ne.symm hne])).trans b), d, e, c, j0, f⟩
def HZ (w : World) (g : Nat) (t : TypeId) (z : Int) : Prop := ∃ A c, Blk w g t [.bool (decide (z < 0)), .slice A (ln z.natAbs) c] ∧ NN w A c z.natAbs
def HB2 (w : World) (g : Nat) (t : TypeId) : Prop := ∃ b A l c, Blk w g t [.bool b, .slice A l c]
section
variable {w w' : World} {g h : Nat} {t t' : TypeId} {z z' : Int} {v : Value}
theorem HZ.to (hz : HZ w g t z) (hb : Below w.heap.size w w') : HZ w' g t z := let ⟨A, c, h1, h2⟩ := hz; ⟨A, c, h1.to hb, h2.to hb⟩
theorem HZ.any (hz : HZ w g t z) : HB2 w g t := let ⟨A, c, h1, _⟩ := hz; ⟨_, _, _, _, h1⟩
theorem HZ.lt (hz : HZ w g t z) : g < w.heap.size := let ⟨_, _, h1, _⟩ := hz; h1.lt
theorem HB2.lt (hz : HB2 w g t) : g < w.heap.size := let ⟨_, _, _, _, h1⟩ := hz; h1.lt
theorem HB2.to (hz : HB2 w g t) (hb : Below w.heap.size w w') : HB2 w' g t := let ⟨b, A, l, c, h1⟩ := hz; ⟨b, A, l, c, h1.to hb⟩
theorem isZ.to (hz : (isZ z).p v w) (hb : Below w.heap.size w w') : (isZ z).p v w' := (isZ z).st _ _ _ hz hb
def put2 (w : World) (g : Nat) (u v : Value) : World := (w.setCell ⟨g, 0, none⟩ u).setCell ⟨g, 1, none⟩ v
theorem NN.put {A : Option Addr} {c n : Nat} (hn : NN w A c n) (hb : HB2 w g t) (u v : Value) : NN (put2 w g u v) A c n := let ⟨_, _, _, _, h1⟩ := hb; nn_put2 hn h1
theorem HZ.put (hz : HZ w h t' z) (hb : HB2 w g t) (hne : h ≠ g) (u v : Value) : HZ (put2 w g u v) h t' z := let ⟨A, c, h1, h2⟩ := hz; ⟨A, c, blk_far2 h1 hne, h2.put hb u v⟩
theorem HB2.put (hz : HB2 w h t') (hne : h ≠ g) (u v : Value) : HB2 (put2 w g u v) h t' := let ⟨b, A, l, c, h1⟩ := hz; ⟨b, A, l, c, blk_far2 h1 hne⟩
theorem HZ.set {A : Option Addr} {c : Nat} (hb : HB2 w g t) (hn : NN w A c z.natAbs) : HZ (put2 w g (.bool (decide (z < 0))) (.slice A (ln z.natAbs) c)) g t z :=
 let ⟨_, _, _, _, h1⟩ := hb; ⟨A, c, blk_put2 h1, hn.put hb _ _⟩
theorem isZ.put (hz : (isZ z).p v w) (hb : HB2 w g t) (u x : Value) : (isZ z).p v (put2 w g u x) := let ⟨A, c, h1, h2⟩ := hz; ⟨A, c, h1, h2.put hb u x⟩
end
section
variable {w wx w0 : World} {g g1 g2 h : Nat} {t t' t1 t2 : TypeId} {z : Int}
end
section
variable {P : Program} {f : Nat} {w : World} {x y z : Int} {v1 v2 : Value} {R : Value → World → Prop} {R0 : Ending → World → Prop}
def Got (w : World) (R : Value → World → Prop) (e : Ending) (w' : World) : Prop := ∃ v, e = .returned v ∧ Below w.heap.size w w' ∧ R v w'
theorem RetZ.got {e : Ending} {w' : World} (h : RetZ z w e w') : Got w (isZ z).p e w' := let ⟨A, c, he, hn, hb⟩ := h; ⟨_, he, hb, A, c, rfl, hn⟩
theorem RetN.got {n : Nat} {e : Ending} {w' : World} (h : RetN n w e w') : Got w (isN n).p e w' := let ⟨A, c, he, hn, hb⟩ := h; ⟨_, he, hb, A, c, rfl, hn⟩
theorem RetZZ.got {e : Ending} {w' : World} (h : RetZZ x y w e w') : Got w (isZZ x y).p e w' := let ⟨A, c, A', c', he, h1, h2, hb⟩ := h; ⟨_, he, hb, A, c, A', c', rfl, h1, h2⟩
theorem same_got {u : Value} {e : Ending} {w' : World} (h : e = .returned u ∧ Below w.heap.size w w') : Got w (isV u).p e w' := ⟨u, h.1, h.2, rfl⟩
theorem drew_got {u : Value} {e : Ending} {w' : World} (h : e = .returned u ∧ ∃ q, w' = w.drewN q) : Got w (isV u).p e w' := by
 obtain ⟨h1, q, rfl⟩ := h; exact ⟨u, h1, below_drewN (Below.refl _ _) _, rfl⟩
theorem z2 (hC : ∀ A1 c1 A2 c2, NN w A1 c1 x.natAbs → NN w A2 c2 y.natAbs → Calls P f #[.agg #[.bool (decide (x < 0)), .slice A1 (ln x.natAbs) c1], .agg #[.bool (decide (y < 0)), .slice A2 (ln y.natAbs) c2]] w R0)
  (hR : ∀ e w', R0 e w' → Got w R e w') (h1 : (isZ x).p v1 w) (h2 : (isZ y).p v2 w) : Calls P f #[v1, v2] w (Got w R) := by
 obtain ⟨A1, c1, rfl, n1⟩ := h1; obtain ⟨A2, c2, rfl, n2⟩ := h2; exact (hC A1 c1 A2 c2 n1 n2).mono hR
theorem z1 (hC : ∀ A1 c1, NN w A1 c1 x.natAbs → Calls P f #[.agg #[.bool (decide (x < 0)), .slice A1 (ln x.natAbs) c1]] w R0)
  (hR : ∀ e w', R0 e w' → Got w R e w') (h1 : (isZ x).p v1 w) : Calls P f #[v1] w (Got w R) := by
 obtain ⟨A1, c1, rfl, n1⟩ := h1; exact (hC A1 c1 n1).mono hR
theorem z1_same (hC : ∀ A1 c1, Calls P f #[.agg #[.bool (decide (x < 0)), .slice A1 (ln x.natAbs) c1]] w fun e w' => e = .returned (.agg #[.bool (decide (x < 0)), .slice A1 (ln x.natAbs) c1]) ∧ Below w.heap.size w w') (h1 : (isZ x).p v1 w) : Calls P f #[v1] w (Got w (isZ x).p) := by
 obtain ⟨A1, c1, rfl, n1⟩ := h1; exact (hC A1 c1).mono fun e w' ⟨he, hb⟩ => ⟨_, he, hb, A1, c1, rfl, n1.to hb⟩
theorem n2 {m n : Nat} (hC : ∀ A1 c1 A2 c2, NN w A1 c1 m → NN w A2 c2 n → Calls P f #[.slice A1 (ln m) c1, .slice A2 (ln n) c2] w R0)
  (hR : ∀ e w', R0 e w' → Got w R e w') (h1 : (isN m).p v1 w) (h2 : (isN n).p v2 w) : Calls P f #[v1, v2] w (Got w R) := by
 obtain ⟨A1, c1, rfl, n1⟩ := h1; obtain ⟨A2, c2, rfl, n2⟩ := h2; exact (hC A1 c1 A2 c2 n1 n2).mono hR
theorem n1 {m : Nat} (hC : ∀ A1 c1, NN w A1 c1 m → Calls P f #[.slice A1 (ln m) c1] w R0)
  (hR : ∀ e w', R0 e w' → Got w R e w') (h1 : (isN m).p v1 w) : Calls P f #[v1] w (Got w R) := by
 obtain ⟨A1, c1, rfl, n1⟩ := h1; exact (hC A1 c1 n1).mono hR
end
section
variable {P : Program} {Q : Exit → Act → World → Prop} {o : Oper} {a : Act} {w : World} {d : Nat} {R : Value → World → Prop} {f : Nat} {x1 x2 : Operand} {ts : Array TypeId}
theorem op_call1 (ho : o.op = .call { callee := .value (.func f), args := #[x1], argTypes := ts }) (hd : o.dst = some d)
  (hcf : ∀ args w, (callFunc f args).run P w = .ok (.enter f args) w) (hc : Calls P f #[a.eval x1] w (Got w R)) : o.wp P a w (Post a w d R) Q :=
 op_call ho hd hcf (by simp) hc
theorem op_call2 (ho : o.op = .call { callee := .value (.func f), args := #[x1, x2], argTypes := ts }) (hd : o.dst = some d)
  (hcf : ∀ args w, (callFunc f args).run P w = .ok (.enter f args) w) (hc : Calls P f #[a.eval x1, a.eval x2] w (Got w R)) : o.wp P a w (Post a w d R) Q :=
 op_call ho hd hcf (by simp) hc
end
section
variable {Q : Exit → Act → World → Prop} {o : Oper} {a : Act} {w : World} {d : Nat} {z : Int} {g : Nat} {x : Operand}
theorem op_gtr0 {ty : TypeId} {k : Int} (ho : o.op = .binOp .gtr 3 x (.const (.int .i64 0)) ty) (hx : a.eval x = .int .i64 k) (w : World) : (execOp a.eval o).run Tryz.prog w = .ok (.value (.bool (decide (0 < k)))) w := by
 unfold execOp; have hc : a.eval (.const (.int .i64 0)) = .int .i64 0 := rfl; simp only [ho, hx, hc]; simp [go_sem]
end
section
variable {w W : World} {t1 t2 t3 t4 t5 : TypeId} {x0 x1 y0 y1 r0 r1 s0 s1 p0 p1 : Value}
end
def VarG (l : List Oper) (n1 : Nat) (ds E AL : List Nat) (T : TypeId) (n : Nat) : Bool :=
 decide (ds.length = n1) && decide (n1 ≤ l.length) && ds.all (fun d => decide (d < n)) && decide ds.Nodup && E.all (fun i => decide (i < n1) && !AL.contains i) && AL.all (fun i => decide (i < n1)) &&
 (List.range n1).all (fun i => match l[i]? with | none => false | some o => decide (o.dst = some (ds.getD i 0)) && (!AL.contains i || o.guard.isNone) && (!AL.contains i || match o.op with | .alloc t => t == T | _ => false))
def WantG (l : List Oper) (ds : List Nat) (o : Oper) (a : Act) (t : Bool) : Prop :=
 match o.guard with
 | none => t = true
 | some (j, b) => ((l[j]?).bind (·.dst)) = some (ds.getD j 0) ∧ a.eval (.tmp (ds.getD j 0)) = .bool (if t then b else !b)
theorem WantG.wanted {l : List Oper} {ds : List Nat} {o : Oper} {a : Act} {t : Bool} (h : WantG l ds o a t) : Region.wanted o (yielded l.toArray a.tmps) = t := by
 unfold WantG at h; unfold Region.wanted; split at h
 ·next hg => rw [hg]; exact h.symm
 next j b hg =>
 rw [hg]; simp only; obtain ⟨h1, h2⟩ := h; have h3 : a.tmps.getD (ds.getD j 0) undef = .bool (if t then b else !b) := h2
 have h4 : a.tmps[ds.getD j 0]? = some (.bool (if t then b else !b)) := by
  rw [Array.getD_eq_getD_getElem?] at h3
  cases h : a.tmps[ds.getD j 0]? with
  | none => rw [h] at h3; simp [undef] at h3
  | some v => rw [h] at h3; simp at h3; rw [h3]
 have h5 : yielded l.toArray a.tmps j = some (if t then b else !b) := by
  unfold yielded; rw [List.getElem?_toArray, h1]; simp only [Option.bind_some, h4]
 rw [h5]; cases t <;> cases b <;> rfl
section
variable {P : Program} {Q : Exit → Act → World → Prop}
theorem wp_region_varg {id : Nat} (n1 : Nat) {l : List Oper} {a0 : Act} {w0 : World} (ds E AL : List Nat) (T : TypeId) (z : List Value) (V : Nat → Value → World → Prop) (C : Nat → World → Prop)
  (hm : P.follows .mixedOrders = true) (hns : Region.noSelect l.toArray = true) (hB : phaseB l.toArray n1 E = true) (hF : freeB l.toArray E = true) (hD : VarG l n1 ds E AL T a0.tmps.size = true)
  (hCt : ∀ i ∈ E, ∀ j ∈ E, j ∈ edgesOf l.toArray i → ∀ w, C j w) (hC0 : ∀ i ∈ E, ∀ w, Below w0.heap.size w0 w → C i w)
  (hz : ∀ w : World, (Instr.alloc T true (.tuple #[])).run P w = .ok (.pointer (some ⟨w.heap.size, 0, none⟩)) (w.alloc (.cells z.toArray T)))
  (hQ : ∀ d v c a w, Q (.panic c) (a.put d v) w → Q (.panic c) a w)
  (hV : ∀ i v w w', V i v w → Below w.heap.size w w' → V i v w')
  (hop : ∀ i, i < n1 → AL.contains i = false → ∀ a w, Below w0.heap.size w0 w → (∀ t, ds.contains t = false → a.eval (.tmp t) = a0.eval (.tmp t)) → Deps l ds AL V i a w →
   match l[i]? with | none => True | some o => (WantG l ds o a true ∧ if E.contains i then ∃ v, (∀ w, C i w → (execOp a.eval o).run P w = .ok (.value v) w) ∧ V i v w else o.wp P a w (Post a w (ds.getD i 0) (V i)) Q) ∨ (WantG l ds o a false ∧ V i undef w))
  (hend : ∀ (vs : Nat → Value) (w : World), Below w0.heap.size w0 w → (∀ i, i < n1 → AL.contains i = false → V i (vs (ds.getD i 0)) w) →
   (∀ i, AL.contains i = true → ∃ g, vs (ds.getD i 0) = .pointer (some ⟨g, 0, none⟩) ∧ w0.heap.size ≤ g ∧ Blk w g T z) → (∀ i j, AL.contains i = true → AL.contains j = true → i ≠ j → vs (ds.getD i 0) ≠ vs (ds.getD j 0)) → wpListS P l.toArray Q E C n1 (l.drop n1) (putAll a0 ds vs) w) :
  (Code.region id l.toArray true).wp P Q a0 w0 := by
 unfold VarG at hD; simp only [Bool.and_eq_true, decide_eq_true_eq, List.all_eq_true, List.mem_range] at hD; obtain ⟨⟨⟨⟨⟨⟨hdl, hnl⟩, hdt⟩, hnd⟩, hEE⟩, hAA⟩, hops⟩ := hD
 have hop1 : ∀ i, i < n1 → ∃ o, l[i]? = some o ∧ o.dst = some (ds.getD i 0) ∧ (AL.contains i = true → o.guard = none) ∧ (AL.contains i = true → o.op = .alloc T) := by
  intro i hi; have h := hops i hi
  cases ho : l[i]? with
  | none => rw [ho] at h; cases h
  | some o =>
   rw [ho] at h; simp only [Bool.and_eq_true, decide_eq_true_eq, Bool.or_eq_true, Bool.not_eq_true', Option.isNone_iff_eq_none] at h; refine ⟨o, rfl, h.1.1, fun hA => h.1.2.elim (fun h3 => by rw [hA] at h3; cases h3) (fun h3 => h3), fun hA => ?_⟩; rcases h.2 with h2 | h2
   ·rw [hA] at h2; cases h2
   revert h2
   cases o.op <;> simp
 have hdi : ∀ i, i < n1 → ds.getD i 0 < a0.tmps.size := by
  intro i hi
  have : ds.getD i 0 ∈ ds := by
   rw [List.getD_eq_getElem?_getD, List.getElem?_eq_getElem (by omega)]; exact List.getElem_mem _
  exact hdt _ this
 let F : Nat → Value → World → Prop := fun i v w => if AL.contains i then ∃ g, v = .pointer (some ⟨g, 0, none⟩) ∧ w0.heap.size ≤ g ∧ Blk w g T z else V i v w
 have hFs : ∀ i v w w', F i v w → Below w.heap.size w w' → F i v w' := by
  intro i v w w' h hb; show if _ then _ else _
  have h' : if _ then _ else _ := h
  split at h'
  ·next hA =>
   rw [if_pos hA]; obtain ⟨g, h1, h2, h3⟩ := h'; exact ⟨g, h1, h2, h3.to hb⟩
  next hA => rw [if_neg hA]; exact hV _ _ _ _ h' hb
 let I : Array Bool → Act → World → Prop := fun L a w => Below w0.heap.size w0 w ∧ L.size = l.length ∧ a.defers = a0.defers ∧ a.tmps.size = a0.tmps.size ∧ (∀ t, t ∉ ds → a0.tmps[t]? = a.tmps[t]?) ∧
  (∀ i, i < n1 → L.getD i false = true → F i (a.eval (.tmp (ds.getD i 0))) w) ∧
  (∀ i j, AL.contains i = true → AL.contains j = true → i ≠ j → L.getD i false = true → L.getD j false = true → a.eval (.tmp (ds.getD i 0)) ≠ a.eval (.tmp (ds.getD j 0)))
 have hAlt : ∀ i, AL.contains i = true → i < n1 := fun i h => hAA i (by simpa using h)
 -- an operation that is no new variable
 have key : ∀ L a w i v w', I L a w → i < n1 → Below w.heap.size w w' → F i v w' → (AL.contains i = true → ∀ j, AL.contains j = true → i ≠ j → L.getD j false = true → v ≠ a.eval (.tmp (ds.getD j 0))) → I (L.setIfInBounds i true) (a.put (some (ds.getD i 0)) v) w' := by
  intro L a w i v w' ⟨hb, hsz, hdf, hts, hot, hf, hne⟩ hi hb' hv hd; refine ⟨below_then hb hb.size hb', by simp [hsz], hdf, by simp [Act.put, hts], fun t ht => ?_, fun j hj hL => ?_, fun j k hj hk hjk hLj hLk => ?_⟩
  ·have : ds.getD i 0 ≠ t := fun e => ht (by rw [← e, List.getD_eq_getElem?_getD, List.getElem?_eq_getElem (by omega)]; exact List.getElem_mem _)
   show _ = (a.tmps.setIfInBounds _ _)[t]?; rw [Array.getElem?_setIfInBounds_ne this]; exact hot t ht
  ·by_cases hij : j = i
   ·subst hij; rw [eval_put_same (by rw [hts]; exact hdi _ hi)]; exact hv
   rw [eval_put_other (nodup_ne hnd (by omega) (by omega) (Ne.symm hij))]; rw [set_getD _ (by omega), if_neg hij] at hL; exact hFs _ _ _ _ (hf j hj hL) hb'
  have hjn := hAlt j hj; have hkn := hAlt k hk; by_cases hji : j = i
  ·subst hji; rw [eval_put_same (by rw [hts]; exact hdi _ hi), eval_put_other (nodup_ne hnd (by omega) (by omega) hjk)]; rw [set_getD _ (by omega), if_neg (Ne.symm hjk)] at hLk; exact hd hj k hk hjk hLk
  by_cases hki : k = i
  ·subst hki; rw [eval_put_same (by rw [hts]; exact hdi _ hi), eval_put_other (nodup_ne hnd (by omega) (by omega) (Ne.symm hji))]; rw [set_getD _ (by omega), if_neg hji] at hLj; exact Ne.symm (hd hk j hj (Ne.symm hjk) hLj)
  rw [eval_put_other (nodup_ne hnd (by omega) (by omega) (Ne.symm hji)), eval_put_other (nodup_ne hnd (by omega) (by omega) (Ne.symm hki))]; rw [set_getD _ (by omega), if_neg hji] at hLj; rw [set_getD _ (by omega), if_neg hki] at hLk; exact hne j k hj hk hjk hLj hLk
 have hpre : ∀ L a w i o, I L a w → i < n1 → i ∈ Region.ready .any l.toArray L → l[i]? = some o → (∀ t, ds.contains t = false → a.eval (.tmp t) = a0.eval (.tmp t)) ∧ Deps l ds AL V i a w := by
  intro L a w i o ⟨hb, hsz, hdf, hts, hot, hf, hne⟩ hi hr ho; obtain ⟨_, o', ho', hall⟩ := mem_ready.1 hr; have : o' = o := by simpa [ho] using ho'.symm
  subst this; refine ⟨fun t ht => ?_, fun j hj => ?_⟩
  ·have := hot t (by simpa using ht); show a.tmps.getD t undef = a0.tmps.getD t undef; simp only [Array.getD_eq_getD_getElem?, this]
  rw [ho] at hj; simp only [Option.map_some, Option.getD_some, Bool.and_eq_true, Bool.not_eq_true', List.any_eq_true, decide_eq_true_eq] at hj; obtain ⟨⟨e, he, hbd, heq⟩, hA⟩ := hj; have hj1 : j < i := by rw [← heq]; exact (phaseB_back hB ho').1 e (by simpa using he) hbd
  have h1 := hf j (by omega) (by rw [← heq]; exact hall e (by simpa using he) hbd); have h2 : if AL.contains j then _ else _ := h1
  rw [if_neg (by rw [hA]; simp)] at h2; exact h2
 refine wp_region_phase (n1 := n1) E C hm hns hB hF (fun i hi => by have := hEE i hi; simp at this; exact this.1) hCt hnl hQ I ?_ (fun L a w h i hi => hC0 i hi w h.1) ?_ ?_ ?_
 ·refine ⟨below_drew (Below.refl _ _), by simp, rfl, rfl, fun _ _ => rfl, fun i hi hL => ?_, fun i j _ _ _ hL _ => ?_⟩
  ·rw [rep_getD] at hL; cases hL
  rw [rep_getD] at hL; cases hL
 ·intro L a w i o hI hi hr ho; have hEi := hEE i hi; simp only [Bool.and_eq_true, decide_eq_true_eq, Bool.not_eq_true'] at hEi; obtain ⟨h1, h2⟩ := hpre L a w i o hI hEi.1 hr ho; have h3 := hop i hEi.1 hEi.2 a w hI.1 h1 h2; rw [ho] at h3; simp only at h3; rw [if_pos (by simpa using hi)] at h3; obtain ⟨o', ho', hdst, hg, _⟩ := hop1 i hEi.1; have : o' = o := by rw [ho] at ho'; exact (Option.some.inj ho').symm
  subst this; rcases h3 with ⟨hw, v, hy, hv⟩ | ⟨hw, hv⟩
  ·refine ⟨v, .inl ⟨hw.wanted, hy⟩, ?_⟩; rw [hdst]; exact key L a w i v w hI hEi.1 (Below.refl _ _) (by show if _ then _ else _; rw [if_neg (by rw [hEi.2]; simp)]; exact hv) (fun h => by rw [hEi.2] at h; cases h)
  refine ⟨undef, .inr ⟨hw.wanted, rfl⟩, ?_⟩; rw [hdst]; exact key L a w i undef w hI hEi.1 (Below.refl _ _) (by show if _ then _ else _; rw [if_neg (by rw [hEi.2]; simp)]; exact hv) (fun h => by rw [hEi.2] at h; cases h)
 ·intro L a w i hI hi hE hr; obtain ⟨o, ho, hdst, hg, hal⟩ := hop1 i hi; obtain ⟨h1, h2⟩ := hpre L a w i o hI hi hr ho; unfold wpOp; have ho2 : l.toArray[i]? = some o := by simpa using ho
  rw [ho2]; simp only; by_cases hA : AL.contains i = true
  ·rw [if_pos (by simp [Region.wanted, hg hA])]; refine .inl ?_; unfold Oper.wp execOp; simp only [hal hA, Sem.run_bind, hz, Result.andThen_ok, Sem.run_pure, Oper.upon, hdst]; refine key L a w i _ _ hI hi (below_alloc (Below.refl _ _) _) ?_ ?_
   ·show if _ then _ else _
    rw [if_pos hA]; exact ⟨_, rfl, hI.1.size, heap_alloc_new _ _⟩
   intro _ j hj hij hL; have h3 : if AL.contains j then _ else _ := hI.2.2.2.2.2.1 j (hAlt j hj) hL
   rw [if_pos hj] at h3; obtain ⟨g, hg1, _, hg2⟩ := h3; rw [hg1]; intro he; have := hg2.lt; injection he with he
   injection he with he
   injection he with he
   omega
  have hA' : AL.contains i = false := by simpa using hA
  have h3 := hop i hi hA' a w hI.1 h1 h2; rw [ho] at h3; simp only at h3; rw [if_neg (by simpa using hE)] at h3; rcases h3 with ⟨hw, h3⟩ | ⟨hw, hv⟩
  ·rw [if_pos hw.wanted]; refine .inl (Oper.wp_mono (fun a' w' h => ?_) h3); obtain ⟨v, rfl, hb', hv⟩ := h; exact key L a w i v w' hI hi hb' (by show if _ then _ else _; rw [if_neg hA]; exact hv) (fun h => absurd h hA)
  rw [if_neg (by rw [hw.wanted]; simp), hdst]; exact key L a w i undef w hI hi (Below.refl _ _) (by show if _ then _ else _; rw [if_neg hA]; exact hv) (fun h => absurd h hA)
 intro L a w hI hall; obtain ⟨hb, hsz, hdf, hts, hot, hf, hne⟩ := hI; have he := putAll_eq (a := a) ds a0 hdf.symm hts.symm (fun d hd => by rw [hts]; exact hdt d hd) hot; rw [← he]; refine hend (fun t => a.eval (.tmp t)) w hb (fun i hi hA => ?_) (fun i hA => ?_) (fun i j hi hj hij => hne i j hi hj hij (hall i (hAlt i hi)) (hall j (hAlt j hj)))
 ·have h3 : if AL.contains i then _ else _ := hf i hi (hall i hi)
  rw [if_neg (by rw [hA]; simp)] at h3; exact h3
 have h3 : if AL.contains i then _ else _ := hf i (hAlt i hA) (hall i (hAlt i hA))
 rw [if_pos hA] at h3; exact h3
end
theorem wp_region_vg {id : Nat} {l : List Oper} {a0 : Act} {w0 : World} {Q : Exit → Act → World → Prop} (n1 : Nat) (ds E AL : List Nat) (T : TypeId) (z : List Value) (Vs : List SP)
  (hns : Region.noSelect l.toArray = true) (hB : phaseB l.toArray n1 E = true) (hF : freeB l.toArray E = true) (hD : VarG l n1 ds E AL T a0.tmps.size = true)
  (hz : ∀ w : World, (Instr.alloc T true (.tuple #[])).run Tryz.prog w = .ok (.pointer (some ⟨w.heap.size, 0, none⟩)) (w.alloc (.cells z.toArray T)))
  (hQ : ∀ d v c a w, Q (.panic c) (a.put d v) w → Q (.panic c) a w)
  (hop : ∀ i, i < n1 → AL.contains i = false → ∀ a w, Below w0.heap.size w0 w → (∀ t, ds.contains t = false → a.eval (.tmp t) = a0.eval (.tmp t)) → Deps l ds AL (vp Vs) i a w →
   match l[i]? with | none => True | some o => (WantG l ds o a true ∧ if E.contains i then ∃ v, (∀ w, (execOp a.eval o).run Tryz.prog w = .ok (.value v) w) ∧ vp Vs i v w else o.wp Tryz.prog a w (Post a w (ds.getD i 0) (vp Vs i)) Q) ∨ (WantG l ds o a false ∧ vp Vs i undef w))
  (hend : ∀ (vs : Nat → Value) (w : World), Below w0.heap.size w0 w → (∀ i, i < n1 → AL.contains i = false → vp Vs i (vs (ds.getD i 0)) w) →
   (∀ i, AL.contains i = true → ∃ g, vs (ds.getD i 0) = .pointer (some ⟨g, 0, none⟩) ∧ w0.heap.size ≤ g ∧ Blk w g T z) → (∀ i j, AL.contains i = true → AL.contains j = true → i ≠ j → vs (ds.getD i 0) ≠ vs (ds.getD j 0)) → wpList Tryz.prog l.toArray Q (l.drop n1) (putAll a0 ds vs) w) :
  (Code.region id l.toArray true).wp Tryz.prog Q a0 w0 := by
 refine wp_region_varg n1 ds E AL T z (vp Vs) (fun _ _ => True) mixed_ hns hB hF hD (fun _ _ _ _ _ _ => trivial) (fun _ _ _ _ => trivial) hz hQ (fun i v w w' h hb => (Vs.getD i SP.any).st v w w' h hb) ?_ (fun vs w h1 h2 h3 h4 => wpListS_plain _ _ _ _ (fun _ _ _ => trivial) (hend vs w h1 h2 h3 h4)); intro i hi hA a w hb hs hd; have h := hop i hi hA a w hb hs hd
 cases ho : l[i]? with
 | none => trivial
 | some o =>
  rw [ho] at h; simp only at h ⊢; rcases h with ⟨hw, h⟩ | h
  ·refine .inl ⟨hw, ?_⟩; split at h
   ·next h1 =>
    rw [if_pos h1]; obtain ⟨v, h2, h3⟩ := h; exact ⟨v, fun w _ => h2 w, h3⟩
   next h1 =>
   rw [if_neg h1]; exact h
  exact .inr h
end Go.Proofs.YtdfhhceboacdcaaGreatDoor
