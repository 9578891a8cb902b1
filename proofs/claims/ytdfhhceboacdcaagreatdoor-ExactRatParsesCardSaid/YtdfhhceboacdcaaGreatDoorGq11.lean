/- Part 11 of the texts behind this claim. -/
import Derived.OrdersHeld
import Derived.Test.YtdfhhceboacdcaaGreatDoorGq1
import Derived.Test.YtdfhhceboacdcaaGreatDoorGq10
set_option linter.unusedVariables false
namespace Go.Proofs.YtdfhhceboacdcaaGreatDoor
open Go.RowKit
theorem hp_spl (l : List UInt8) : Go.Lib.hasPrefix l [45] = (spl l).1 ∧ Go.Lib.trimPrefix l [45] = (spl l).2 := by
 rcases l with _ | ⟨c, l⟩
 ·exact ⟨rfl, rfl⟩
 by_cases h : c = 45
 ·subst h; exact ⟨by simp [Go.Lib.hasPrefix, spl], by simp [Go.Lib.trimPrefix, Go.Lib.hasPrefix, spl]⟩
 rw [spl_c h]; have h2 : ((45 : UInt8) == c) = false := beq_eq_false_iff_ne.2 fun e => h e.symm
 have h3 : Go.Lib.hasPrefix (c :: l) [45] = false := by show ((45 == c) && _) = false; rw [h2]; rfl
 exact ⟨h3, by unfold Go.Lib.trimPrefix; rw [h3]; rfl⟩
theorem spl_back (l : List UInt8) : l = sgnb (spl l).1 ++ (spl l).2 := by
 rcases l with _ | ⟨c, l⟩
 ·rfl
 by_cases h : c = 45
 ·subst h; rfl
 rw [spl_c h]; rfl
theorem itoa_sgz (b : Bool) (m : Nat) : Go.Lib.itoa (sgz b m) = (if m = 0 then [48] else sgnb b ++ Go.Lib.decDigits m) := by
 by_cases h0 : m = 0
 ·rw [if_pos h0, h0]; have : sgz b 0 = 0 := by cases b <;> rfl
  rw [this]; simp [Go.Lib.itoa, Go.Lib.decDigits]
 rw [if_neg h0]; cases b
 ·simp [sgz, Go.Lib.itoa, sgnb]
 simp only [sgz, Go.Lib.itoa, sgnb, if_true]; rw [if_pos (by omega)]; simp
theorem form_iff {b : Bool} {t : List UInt8} (hd : t.all isD = true) (hne : t ≠ []) : (Go.Lib.itoa (sgz b (vald t)) = sgnb b ++ t) ↔ ¬ (t.head? = some 48 ∧ (1 < t.length ∨ b = true)) := by
 rw [itoa_sgz]; by_cases h48 : t.head? = some 48
 ·by_cases h1 : t = [48]
  ·subst h1; have : vald [48] = 0 := rfl; rw [this, if_pos rfl]; cases b <;> simp [sgnb]
  have hlen : 1 < t.length := by
   rcases t with _ | ⟨x, _ | ⟨y, r⟩⟩
   ·exact absurd rfl hne
   ·simp at h48; exact absurd (by rw [h48]) h1
   simp
  constructor
  ·intro e; exfalso; by_cases h0 : vald t = 0
   ·rw [if_pos h0] at e; have := congrArg List.length e; simp at this; omega
   rw [if_neg h0] at e; exact dec_bad h48 h1 (List.append_cancel_left e)
  intro h; exact absurd ⟨h48, .inl hlen⟩ h
 obtain ⟨e, h0⟩ := dec_vald t hd hne (.inl h48); rw [if_neg (h0 h48), e]; exact ⟨fun _ h => h48 h.1, fun _ => rfl⟩
theorem okT_form {b : Bool} {t : List UInt8} (hd : t.all isD = true) (hne : t ≠ []) (hl : t.length ≤ 2500) : okT b t = (decide (ln (vald t) ≤ 256) && decide (Go.Lib.itoa (sgz b (vald t)) = sgnb b ++ t)) := by
 have h := form_iff (b := b) hd hne; unfold okT; rw [hd, decide_eq_true hne, decide_eq_true hl]; by_cases hf : t.head? = some 48 ∧ (1 < t.length ∨ b = true)
 ·rw [decide_eq_false (fun e => (h.1 e) hf)]
  have e2 : (decide (1 < t.length) || b) = true := by
   rcases hf.2 with h | h
   ·rw [decide_eq_true h]; rfl
   rw [h]; simp
  rw [decide_eq_true hf.1, e2]; simp
 rw [decide_eq_true (h.2 hf)]
 have e1 : (decide (t.head? = some 48) && (decide (1 < t.length) || b)) = false := by
  rw [Bool.eq_false_iff]; intro h; apply hf; simp at h; exact h
 rw [e1]; simp
theorem sgz_neg (b : Bool) (m : Nat) : decide (sgz b m < 0) = (b && decide (0 < ln m)) ∧ (sgz b m).natAbs = m := by
 have h := ln_pos (n := m); unfold sgz; cases b
 ·simp
 simp; omega
set_option maxHeartbeats 1000000 in
set_option maxRecDepth 100000 in
theorem rParse_calls (l : List UInt8) (w : World) (hl : l.length ≤ 140737488355328) (htab : Tab w) : Calls Tryz.prog 22 #[.string ⟨l.toArray⟩] w (RetZE (prZ (spl l).1 (spl l).2) (prE (spl l).1 (spl l).2) w) := by
 have hcp := Go.Proofs.Tryz.strings_CutPrefix ⟨l.toArray⟩ { data := #[45] } (w.alloc (.cells #[.bool false, .slice none 0 0] 24)); have e1 : ({ data := l.toArray } : ByteArray).data.toList = l := by simp
 have e2 : ({ data := #[45] } : ByteArray).data.toList = [45] := rfl; rw [e1, e2, (hp_spl l).1, (hp_spl l).2] at hcp; obtain ⟨b, hb⟩ : ∃ b, b = (spl l).1 := ⟨_, rfl⟩; obtain ⟨t, ht⟩ : ∃ t, t = (spl l).2 := ⟨_, rfl⟩; have hsb := spl_back l; rw [← hb, ← ht] at hcp hsb ⊢; have htl : t.length ≤ l.length := by rw [hsb, List.length_append]; omega
 have HSB := Hd.mk hsb; have HCP := Hd.mk hcp; have HTAB := Hd.mk htab; clear hb ht hsb hcp e1 e2 htab; go_enter Tryz.func22, Tryz.ntmps22
 go_wp2_with fail
 refine HCP.out.mono ?_; rintro e W0 ⟨rfl, rfl⟩; obtain ⟨W0, hW0⟩ : ∃ W0 : World, W0 = (w.alloc (.cells #[.bool false, .slice none 0 0] 24)) := ⟨_, rfl⟩; have HK : Hd (Blk W0 w.heap.size 24 [.bool false, .slice none 0 0]) := ⟨by rw [hW0]; exact blk_new rfl [.bool false, .slice none 0 0] _⟩; have HB : Hd (Below w.heap.size w W0) := ⟨by rw [hW0]; exact below_alloc (Below.refl _ _) _⟩; rw [← hW0]; clear hW0 HCP; have g0 := HK.out.c0; have g1 := HK.out.c1; have f0 := HK.out.f0; have f1 := HK.out.f1; by_cases hlen : t.length < 1 ∨ 2500 < t.length
 ·have hno : okT b t = false := by
   unfold okT; rcases hlen with h | h
   ·rw [decide_eq_false (show ¬ t ≠ [] by intro h2; exact h2 (List.eq_nil_of_length_eq_zero (by omega)))]; rfl
   rw [decide_eq_false (show ¬ t.length ≤ 2500 by omega)]; simp
  have HNO := Hd.mk hno; clear hno; by_cases h1 : t.length < 1
  ·have h1' : (t.length : Int) < 1 := by omega
   clear hlen; go_wp2_with fail
   obtain ⟨k0, k1, k2⟩ := two_set g0 g1 (.bool false) (.slice none 0 0); refine bodyPost_ret (v := .tuple #[.agg #[.bool false, .slice none 0 0], .int .i64 6]) (by simp [results, Tryz.results22, go_sem, k0, k1]) rfl ?_; exact retZE_err (below_set (below_set HB.out (Nat.le_refl _) _) (Nat.le_refl _) _) HNO.out
  have h1' : ¬ (t.length : Int) < 1 := by omega
  have h2' : (2500 : Int) < (t.length : Int) := by omega
  clear hlen; go_wp2_with fail
  obtain ⟨k0, k1, k2⟩ := two_set g0 g1 (.bool false) (.slice none 0 0); refine bodyPost_ret (v := .tuple #[.agg #[.bool false, .slice none 0 0], .int .i64 6]) (by simp [results, Tryz.results22, go_sem, k0, k1]) rfl ?_; exact retZE_err (below_set (below_set HB.out (Nat.le_refl _) _) (Nat.le_refl _) _) HNO.out
 have h1' : ¬ (t.length : Int) < 1 := by omega
 have h2' : ¬ (2500 : Int) < (t.length : Int) := by omega
 have hn0 : 0 < t.length := by omega
 have hn25 : t.length ≤ 2500 := by omega
 clear hlen; go_wp2_with fail
 go_loopw [6, 25] (fun s6 s25 wr => ParseIn W0 t t.length s6 s25 wr) (fun _ s25 _ => t.length - (intOf s25).toNat)
 case atStart => exact ⟨0, none, 0, by omega, by rw [List.take_zero, show vald [] = 0 from rfl, ln_zero], rfl, by simp, NN.nil _ _ _ (by omega), Below.refl _ _⟩
 case round =>
  obtain ⟨k, A, c, hk, rfl, rfl, hall, hnn, hbel⟩ := hrel; have HALL := Hd.mk hall; have HN := Hd.mk hnn; have HBL := Hd.mk hbel; clear hall hnn hbel; replace g0 := (HK.out.to HBL.out).c0; replace g1 := (HK.out.to HBL.out).c1; replace f0 := (HK.out.to HBL.out).f0; replace f1 := (HK.out.to HBL.out).f1; have hlk : ln (vald (t.take k)) ≤ 2500 := Nat.le_trans (ln_vald _ HALL.out) (by rw [List.length_take]; omega); obtain ⟨m, hm⟩ : ∃ m, m = vald (t.take k) := ⟨_, rfl⟩; rw [← hm] at hlk HN ⊢; have HM := Hd.mk hm; clear hm; by_cases hlt : k < t.length
  ·obtain ⟨d, hd⟩ : ∃ d, d = t[k] := ⟨_, rfl⟩; have hts : t.take (k + 1) = t.take k ++ [d] := by rw [List.take_succ_eq_append_getElem hlt, hd]
   have hkz : k < ({ data := t.toArray } : ByteArray).size := by show k < t.toArray.size; simpa using hlt
   obtain ⟨dn, hdn⟩ : ∃ dn : Nat, dn = d.toNat := ⟨_, rfl⟩; have hd255 : dn < 256 := by rw [hdn]; exact d.toNat_lt
   have hidx : (({ data := t.toArray } : ByteArray)[k]'hkz).toNat = dn := by rw [hdn, hd]; rfl
   have HTS := Hd.mk hts; have HD := Hd.mk hd; have HDN := Hd.mk hdn; clear hts hd hdn; by_cases hdg : 48 ≤ dn ∧ dn ≤ 57
   ·obtain ⟨hd1, hd2⟩ := hdg; have hisd : isD d = true := by unfold isD; rw [← HDN.out, decide_eq_true hd1, decide_eq_true hd2]; rfl
    have HAL2 : Hd ((t.take (k + 1)).all isD = true) := ⟨by rw [HTS.out, List.all_append, HALL.out]; simp [hisd]⟩; obtain ⟨dv, hdv⟩ : ∃ dv, dv = dn - 48 := ⟨_, rfl⟩; have hdv' : (dn : Int) - 48 = (dv : Int) := by omega
    obtain ⟨m1, hm1⟩ : ∃ m1, m1 = m * 10 := ⟨_, rfl⟩; have hl1 : ln m1 ≤ 2501 := by rw [hm1]; exact Nat.le_trans (ln_mul m 10) (by rw [ln_ten]; omega)
    have hl2 : ln dv ≤ 1 := ln_word (by omega); have HV2 : Hd (m1 + dv = vald (t.take (k + 1))) := ⟨by rw [HTS.out, vald_snoc, ← HM.out, ← HDN.out, hm1, hdv]⟩; have HMU : Hd (∀ W, Below wr.heap.size wr W → Calls Tryz.prog 53 #[.slice A (ln m) c, .int .u32 10] W (RetN m1 W)) := ⟨fun W hW => by rw [hm1]; exact rsmall_calls A c m 10 W (HN.out.to hW) (by omega) (by omega)⟩; have HNA := Hd.mk (fun W => natural_calls dv (by omega) W); have HPL := Hd.mk (fun A1 c1 A2 c2 W h1 h2 => rplus_calls A1 c1 m1 A2 c2 dv W h1 h2 (by omega) (by omega)); have hdl : dv < 256 := by omega
    have hw8 : IntKind.u8.wrap (dv : Int) = (dv : Int) := by simp [IntKind.wrap, IntKind.bits, IntKind.signed]; omega
    have hw64 : IntKind.u64.wrap (dv : Int) = (dv : Int) := by simp [IntKind.wrap, IntKind.bits, IntKind.signed]; omega
    clear hm1 hisd hdv; go_upto_region 10 with (fail)
    have HBC : Hd (Below wr.heap.size wr wr) := ⟨Below.refl _ _⟩
    go_region_with (first
     | (go_at_call 53; (with_reducible refine (HMU.out _ (by first | exact HBC.out | exact below_drew HBC.out | exact below_drewN HBC.out _)).mono ?_); rintro e w2 ⟨A2, c2, rfl, hn2, hb2⟩; have HX2 := Hd.mk hn2; (try replace HX3 := Hd.mk (HX3.out.to hb2)); (replace HBC := Hd.mk (bel_then (by first | exact HBC.out | exact below_drew HBC.out | exact below_drewN HBC.out _) hb2)); clear hn2 hb2)
     | (go_at_call 54; (with_reducible refine (HNA.out _).mono ?_); rintro e w3 ⟨A3, c3, rfl, hn3, hb3⟩; have HX3 := Hd.mk hn3; (try replace HX2 := Hd.mk (HX2.out.to hb3)); (replace HBC := Hd.mk (bel_then (by first | exact HBC.out | exact below_drew HBC.out | exact below_drewN HBC.out _) hb3)); clear hn3 hb3)
     | (go_at_call 52; (with_reducible refine (HPL.out _ _ _ _ _ HX2.out HX3.out).mono ?_); rintro e w4 ⟨A4, c4, rfl, hn4, hb4⟩; have HX4 := Hd.mk hn4; (replace HBC := Hd.mk (bel_then (by first | exact HBC.out | exact below_drew HBC.out | exact below_drewN HBC.out _) hb4)); clear hn4 hb4))
    all_goals
     go_wp2_with fail
     refine ⟨⟨k + 1, A4, c4, by omega, by rw [← HV2.out], rfl, HAL2.out, by rw [← HV2.out]; exact HX4.out, bel_then HBL.out HBC.out⟩, by simp [intOf]; omega⟩
   have hno : okT b t = false := by
    have e1 : t.all isD = false := by
     rw [List.all_eq_false]; refine ⟨d, by rw [HD.out]; exact List.getElem_mem hlt, ?_⟩; unfold isD; rw [← HDN.out]; simp; omega
    unfold okT; rw [e1]; simp
   have HNO := Hd.mk hno; clear hno; by_cases hd1 : dn < 48
   ·go_wp2_with fail
    obtain ⟨k0, k1, k2⟩ := two_set g0 g1 (.bool false) (.slice none 0 0); refine bodyPost_ret (v := .tuple #[.agg #[.bool false, .slice none 0 0], .int .i64 6]) (by simp [results, Tryz.results22, go_sem, k0, k1]) rfl ?_; exact retZE_err (below_set (below_set (bel_then HB.out HBL.out) (Nat.le_refl _) _) (Nat.le_refl _) _) HNO.out
   have hd2 : 57 < dn := by omega
   go_wp2_with fail
   obtain ⟨k0, k1, k2⟩ := two_set g0 g1 (.bool false) (.slice none 0 0); refine bodyPost_ret (v := .tuple #[.agg #[.bool false, .slice none 0 0], .int .i64 6]) (by simp [results, Tryz.results22, go_sem, k0, k1]) rfl ?_; exact retZE_err (below_set (below_set (bel_then HB.out HBL.out) (Nat.le_refl _) _) (Nat.le_refl _) _) HNO.out
  have hkn : k = t.length := by omega
  have htk : t.take k = t := List.take_of_length_le (by omega); rw [htk] at HALL HM; have hok := okT_form (b := b) HALL.out (by intro h; rw [h] at hn0; simp at hn0) hn25; rw [← HM.out, ← HSB.out] at hok; have HOK := Hd.mk hok; have HSG := Hd.mk (sgz_neg b m); clear hok htk; obtain ⟨b2, hb2⟩ : ∃ b2, b2 = decide (sgz b m < 0) := ⟨_, rfl⟩; have HB2 := Hd.mk hb2; have HSI := Hd.mk (signed_calls b b2 A (ln m) c wr (by omega) (by rw [hb2]; exact HSG.out.1.symm)); clear hb2; go_wp2_with fail
  refine HSI.out.mono ?_; rintro e w2 ⟨rfl, hb3⟩; have HBM := Hd.mk (bel_then HBL.out hb3); have HN2 := Hd.mk (HN.out.to hb3); clear hb3 HSI; go_wp2_with fail
  obtain ⟨W3, hW3⟩ : ∃ W : World, W = w2.alloc (.cells #[.bool b2, .slice A (ln m) c] 61) := ⟨_, rfl⟩; rw [← hW3]; obtain ⟨hB3, hBW3⟩ := boxes1 hW3; have HZ3 := Hd.mk hB3; have HN3 := Hd.mk (HN2.out.to hBW3); have HB3 := Hd.mk (bel_then HBM.out hBW3); have q0 := hB3.c0; have q1 := hB3.c1; clear hB3 hBW3 hW3 HN2 HBM; replace g0 := (HK.out.to HB3.out).c0; replace g1 := (HK.out.to HB3.out).c1; replace f0 := (HK.out.to HB3.out).f0; replace f1 := (HK.out.to HB3.out).f1; refine (rFits_calls b2 A (ln m) c W3 (by omega)).mono ?_; rintro e w4 ⟨rfl, hb4⟩; replace HB3 := Hd.mk (bel_then HB3.out hb4); replace HN3 := Hd.mk (HN3.out.to hb4); replace HZ3 := Hd.mk (HZ3.out.to hb4); clear hb4; replace q0 := HZ3.out.c0; replace q1 := HZ3.out.c1; replace g0 := (HK.out.to HB3.out).c0; replace g1 := (HK.out.to HB3.out).c1; replace f0 := (HK.out.to HB3.out).f0; replace f1 := (HK.out.to HB3.out).f1; by_cases hf : ln m ≤ 256
  ·rw [decide_eq_true hf]; have HDI := Hd.mk (fun W (hW : Below w4.heap.size w4 W) => rdigits_calls (sgz b m) A c W (by rw [HSG.out.2]; exact HN3.out.to hW) (by rw [HSG.out.2]; omega) (HTAB.out.to (bel_then HB.out (bel_then HB3.out hW)))); rw [← HB2.out, HSG.out.2] at HDI; obtain ⟨S, hS⟩ : ∃ S, S = Go.Lib.itoa (sgz b m) := ⟨_, rfl⟩; rw [← hS] at HDI HOK; have HS := Hd.mk hS; clear hS; go_wp2_with fail
   refine (HDI.out _ (Below.refl _ _)).mono ?_; rintro e w5 ⟨rfl, hb5⟩; replace HB3 := Hd.mk (bel_then HB3.out hb5); replace HN3 := Hd.mk (HN3.out.to hb5); replace HZ3 := Hd.mk (HZ3.out.to hb5); clear hb5 HDI; replace q0 := HZ3.out.c0; replace q1 := HZ3.out.c1; replace g0 := (HK.out.to HB3.out).c0; replace g1 := (HK.out.to HB3.out).c1; replace f0 := (HK.out.to HB3.out).f0; replace f1 := (HK.out.to HB3.out).f1; by_cases hsl : S = l
   ·have hsb : (S == l) = true := by rw [hsl]; exact beq_self_eq_true l
    have hy : okT b t = true := by rw [HOK.out, decide_eq_true hf, decide_eq_true hsl]; rfl
    have HY := Hd.mk hy; have HSL := Hd.mk hsl; clear hy hsl; go_wp2_with fail
    refine (rInt_calls b2 A (ln m) c w5).mono ?_; rintro e w6 ⟨rfl, hb6⟩; replace HB3 := Hd.mk (bel_then HB3.out hb6); replace HN3 := Hd.mk (HN3.out.to hb6); clear hb6; replace g0 := (HK.out.to HB3.out).c0; replace g1 := (HK.out.to HB3.out).c1; replace f0 := (HK.out.to HB3.out).f0; replace f1 := (HK.out.to HB3.out).f1; go_wp2_with fail
    obtain ⟨k0, k1, k2⟩ := two_set g0 g1 (.bool b2) (.slice A (ln m) c); refine bodyPost_ret (v := .tuple #[.agg #[.bool b2, .slice A (ln m) c], .int .i64 0]) (by simp [results, Tryz.results22, go_sem, k0, k1]) rfl ?_; rw [(pr_yes HY.out).1, (pr_yes HY.out).2, ← HM.out]; exact ⟨A, c, by rw [← HB2.out, HSG.out.2], by rw [HSG.out.2]; exact (HN3.out.set_ g0 (by intro t; simp) _).set_ k2 (by intro t; simp) _, below_set (below_set (bel_then HB.out HB3.out) (Nat.le_refl _) _) (Nat.le_refl _) _⟩
   have hsb : (S == l) = false := beq_eq_false_iff_ne.2 hsl; have hno : okT b t = false := by rw [HOK.out, decide_eq_false hsl]; simp
   have HNO := Hd.mk hno; have HSL := Hd.mk hsl; clear hno hsl; go_wp2_with fail
   obtain ⟨k0, k1, k2⟩ := two_set g0 g1 (.bool false) (.slice none 0 0); refine bodyPost_ret (v := .tuple #[.agg #[.bool false, .slice none 0 0], .int .i64 6]) (by simp [results, Tryz.results22, go_sem, k0, k1]) rfl ?_; exact retZE_err (below_set (below_set (bel_then HB.out HB3.out) (Nat.le_refl _) _) (Nat.le_refl _) _) HNO.out
  have hno : okT b t = false := by rw [HOK.out, decide_eq_false hf]; rfl
  have HNO := Hd.mk hno; rw [decide_eq_false hf]; clear hno; go_wp2_with fail
  obtain ⟨k0, k1, k2⟩ := two_set g0 g1 (.bool false) (.slice none 0 0); refine bodyPost_ret (v := .tuple #[.agg #[.bool false, .slice none 0 0], .int .i64 6]) (by simp [results, Tryz.results22, go_sem, k0, k1]) rfl ?_; exact retZE_err (below_set (below_set (bel_then HB.out HB3.out) (Nat.le_refl _) _) (Nat.le_refl _) _) HNO.out
theorem dc_val {x : Nat} (h : x < 10) : (UInt8.ofNat (48 + x)).toNat = 48 + x ∧ isD (UInt8.ofNat (48 + x)) = true := by
 have e : (UInt8.ofNat (48 + x)).toNat = 48 + x := by rw [UInt8.toNat_ofNat']; omega
 refine ⟨e, ?_⟩; unfold isD; rw [e, decide_eq_true (by omega), decide_eq_true (by omega)]; rfl
theorem dec_back : ∀ m : Nat, (Go.Lib.decDigits m).all isD = true ∧ vald (Go.Lib.decDigits m) = m := by
 intro m
 induction m using Nat.strongRecOn with
 | _ m ih =>
  rw [Go.Lib.decDigits]; by_cases h : m < 10
  ·rw [dif_pos h]; obtain ⟨e1, e2⟩ := dc_val h; refine ⟨by rw [List.all_cons, e2]; rfl, ?_⟩; have := vald_snoc [] (UInt8.ofNat (48 + m)); rw [e1] at this; rw [show ([UInt8.ofNat (48 + m)] : List UInt8) = [] ++ [UInt8.ofNat (48 + m)] from rfl, this]; simp [vald]
  rw [dif_neg h]; obtain ⟨h1, h2⟩ := ih (m / 10) (by omega); obtain ⟨e1, e2⟩ := dc_val (show m % 10 < 10 by omega); refine ⟨by rw [List.all_append, h1, List.all_cons, e2]; rfl, ?_⟩; rw [vald_snoc, h2, e1]; omega
theorem pow_big (k j : Nat) (h : 32 * k ≤ 33 * j) : B ^ k ≤ 10 ^ (10 * j) := by
 have e1 : B ^ k = 2 ^ (32 * k) := by rw [Nat.pow_mul]; rfl
 rw [e1]; refine Nat.le_trans (Nat.pow_le_pow_right (by decide) h) ?_; rw [Nat.pow_mul, Nat.pow_mul]; exact Nat.pow_le_pow_left (by decide) j
theorem dec_short {m : Nat} (h : ln m ≤ 256) : (Go.Lib.decDigits m).length ≤ 2500 :=
 dec_len (k := 10 * 250) (Nat.lt_of_lt_of_le (ln_le_iff.1 h) (pow_big 256 250 (by decide))) (by decide)
theorem dec_form (b : Bool) {m : Nat} (h : ln m ≤ 256) (hb : b = true → m ≠ 0) : okT b (Go.Lib.decDigits m) = true := by
 obtain ⟨h1, h2⟩ := dec_back m; have hne : Go.Lib.decDigits m ≠ [] := by intro e; have := dec_pos m; rw [e] at this; simp at this
 rw [okT_form h1 hne (dec_short h), h2, decide_eq_true h, itoa_sgz]; by_cases h0 : m = 0
 ·cases b
  ·subst h0; rw [if_pos rfl]; simp [Go.Lib.decDigits, sgnb]
  exact absurd h0 (hb rfl)
 rw [if_neg h0]; simp
theorem spl_itoa {z : Int} (h : ln z.natAbs ≤ 256) : prZ (spl (Go.Lib.itoa z)).1 (spl (Go.Lib.itoa z)).2 = z ∧ prE (spl (Go.Lib.itoa z)).1 (spl (Go.Lib.itoa z)).2 = 0 := by
 have key : spl (Go.Lib.itoa z) = (decide (z < 0), Go.Lib.decDigits z.natAbs) := by
  unfold Go.Lib.itoa; by_cases hz : z < 0
  ·rw [if_pos hz, decide_eq_true hz]; rfl
  rw [if_neg hz, decide_eq_false hz, show z.toNat = z.natAbs by omega]; obtain ⟨h1, _⟩ := dec_back z.natAbs; have hp := dec_pos z.natAbs; rcases hd : Go.Lib.decDigits z.natAbs with _ | ⟨c, t⟩
  ·rw [hd] at hp; simp at hp
  rw [hd] at h1; refine spl_c ?_ t; intro e; subst e; simp at h1; exact absurd h1.1 (by decide)
 rw [key]; have hok := dec_form (decide (z < 0)) h (by intro e; have := of_decide_eq_true e; omega); rw [(pr_yes hok).1, (pr_yes hok).2, (dec_back z.natAbs).2]; refine ⟨?_, rfl⟩; unfold sgz; by_cases hz : z < 0
 ·rw [decide_eq_true hz]; simp; omega
 rw [decide_eq_false hz]; simp; omega
set_option linter.unusedSimpArgs false
section
variable {P : Program} {ops : Array Oper} {Q : Exit → Act → World → Prop} {md : Region.Mode}
theorem count_set : ∀ (l : List Bool) (i : Nat), l[i]? = some false → (l.set i true).count false + 1 = l.count false
 | [], i, h => by simp at h
 | b :: l, 0, h => by
  simp at h; subst h; simp
 | b :: l, i + 1, h => by
  have := count_set l i (by simpa using h); cases b <;> simp at this ⊢ <;> omega
theorem ready_get {L : Array Bool} (hsz : L.size = ops.size) {i : Nat} (h : i ∈ Region.ready md ops L) : L.toList[i]? = some false := by
 obtain ⟨h0, o, ho, _⟩ := mem_ready.1 h; have hlt : i < L.size := by rw [hsz]; exact (Array.getElem?_eq_some_iff.1 ho).1
 simp [hlt] at h0 ⊢; exact h0
def edgesOf (ops : Array Oper) (k : Nat) : List Nat := match ops[k]? with
 | none => []
 | some o => (o.after.toList.filter (fun e => Region.binds .any e)).map (fun e => e.on)
def clos (ops : Array Oper) : Nat → List Nat → List Nat
 | 0, S => S
 | t + 1, S => clos ops t (S ++ (S.flatMap (edgesOf ops)).filter (fun j => !S.contains j))
theorem edgesOf_listed {L : Array Bool} {k : Nat} {o : Oper} (ho : ops[k]? = some o) (h : ∀ e ∈ o.after, Region.binds .any e = true → L.getD e.on false = true) : ∀ j ∈ edgesOf ops k, L.getD j false = true := by
 intro j hj; unfold edgesOf at hj; rw [ho] at hj; simp only [List.mem_map, List.mem_filter] at hj; obtain ⟨e, ⟨he, hb⟩, rfl⟩ := hj; exact h e (by simpa using he) hb
def Closed (ops : Array Oper) (L : Array Bool) : Prop := ∀ k o, ops[k]? = some o → L.getD k false = true → ∀ e ∈ o.after, Region.binds .any e = true → L.getD e.on false = true
theorem clos_listed {L : Array Bool} (hc : Closed ops L) : ∀ t S, (∀ j ∈ S, L.getD j false = true) → ∀ j ∈ clos ops t S, L.getD j false = true
 | 0, S, h => h
 | t + 1, S, h => clos_listed hc t _ (fun j hj => by
  rcases List.mem_append.1 hj with h1 | h1
  ·exact h j h1
  obtain ⟨k, hk, hkj⟩ := List.mem_flatMap.1 (List.mem_filter.1 h1).1
  cases ho : ops[k]? with
  | none => unfold edgesOf at hkj; rw [ho] at hkj; cases hkj
  | some o => exact edgesOf_listed ho (hc k o ho (h k hk)) j hkj)
def waitedL (ops : Array Oper) (L : Array Bool) (i : Nat) : Prop := ∃ k, L.getD k false = true ∧ i ∈ edgesOf ops k
def SL (ops : Array Oper) (E : List Nat) (C : Nat → World → Prop) (L : Array Bool) (w : World) : Prop := ∀ i ∈ E, ¬ waitedL ops L i → C i w
def wpAnyS (P : Program) (ops : Array Oper) (Q : Exit → Act → World → Prop) (E : List Nat) (C : Nat → World → Prop) : Nat → Array Bool → Act → World → Prop
 | 0, L, a, w => Region.ready .any ops L = [] ∧ Q .normal a w
 | n + 1, L, a, w => (Region.ready .any ops L = [] → Q .normal a w) ∧ ∀ i ∈ Region.ready .any ops L, wpOp P ops Q i (fun a' w' => SL ops E C (L.setIfInBounds i true) w' ∧ wpAnyS P ops Q E C n (L.setIfInBounds i true) a' w') a w
theorem wpAny_of_S {E : List Nat} {C : Nat → World → Prop} : ∀ n L a w, wpAnyS P ops Q E C n L a w → wpAny P .any ops Q n L a w
 | 0, _, _, _, h => h
 | n + 1, _, _, _, h => ⟨h.1, fun i hi => wpOp_mono (fun a' w' h' => wpAny_of_S n _ a' w' h'.2) (h.2 i hi)⟩
theorem getD_conv {L : Array Bool} {i : Nat} (h : i < L.size) (a b : Bool) : L.getD i a = L.getD i b := by simp [h]
theorem set_getD {L : Array Bool} {i j : Nat} (d : Bool) (hi : i < L.size) : (L.setIfInBounds i true).getD j d = if j = i then true else L.getD j d := by
 by_cases h : j = i
 ·subst h; simp [hi]
 rw [if_neg h, Go.getD_set_ne d (Ne.symm h)]
theorem ready_lt {L : Array Bool} {i : Nat} (hsz : L.size = ops.size) (h : i ∈ Region.ready .any ops L) : i < L.size := by
 obtain ⟨_, o, ho, _⟩ := mem_ready.1 h; rw [hsz]; exact (Array.getElem?_eq_some_iff.1 ho).1
theorem waited_set {L : Array Bool} {i j : Nat} (hj : j < L.size) : waitedL ops (L.setIfInBounds j true) i ↔ waitedL ops L i ∨ i ∈ edgesOf ops j := by
 constructor
 ·rintro ⟨k, hk, hi⟩; rw [set_getD _ hj] at hk; split at hk
  ·next h => subst h; exact .inr hi
  exact .inl ⟨k, hk, hi⟩
 rintro (⟨k, hk, hi⟩ | hi)
 ·refine ⟨k, ?_, hi⟩; rw [set_getD _ hj]; split
  ·rfl
  exact hk
 exact ⟨j, by rw [set_getD _ hj, if_pos rfl], hi⟩
theorem not_edge {i j : Nat} {oj : Oper} (hoj : ops[j]? = some oj) (h : ∀ e ∈ oj.after, Region.binds .any e = true → e.on ≠ i) : i ∉ edgesOf ops j := by
 intro hi; unfold edgesOf at hi; rw [hoj] at hi; simp only [List.mem_map, List.mem_filter] at hi; obtain ⟨e, ⟨he, hb⟩, heq⟩ := hi; exact h e (by simpa using he) hb heq
theorem wpAnyS_first {E : List Nat} {C : Nat → World → Prop} {i : Nat} {oi : Oper} {v : Value} (hi : ops[i]? = some oi) (hsel : ∀ (j : Nat) (o : Oper) cs b, ops[j]? = some o → o.op ≠ .select cs b)
  (hQ : ∀ c a w, Q (.panic c) (a.put oi.dst v) w → Q (.panic c) a w) (hiE : i ∈ E) (hself : i ∉ edgesOf ops i) (hCt : ∀ j ∈ E, j ∈ edgesOf ops i → ∀ w, C j w) :
  ∀ (n : Nat) (L : Array Bool) (a : Act) (w : World), L.size = ops.size →
   (∀ j oj, ops[j]? = some oj → j ≠ i → L.getD j true = false → (∀ e ∈ oj.after, Region.binds .any e = true → e.on ≠ i) → oi.apart ops oj = true) →
   i ∈ Region.ready .any ops L → ¬ waitedL ops L i → YieldsIf P ops (C i) oi v a → C i w → SL ops E C (L.setIfInBounds i true) w →
   wpAnyS P ops Q E C n (L.setIfInBounds i true) (a.put oi.dst v) w → wpAnyS P ops Q E C (n + 1) L a w := by
 intro n
 induction n with
 | zero =>
  intro L a w hsz _ hr hnw hy hC hS H; refine ⟨fun h => (by rw [h] at hr; cases hr), fun j hj => ?_⟩; by_cases hji : j = i
  ·subst hji; exact hy.wpOp hi hC ⟨hS, H⟩
  have := ready_mono hj hji; rw [H.1] at this; cases this
 | succ n ih =>
  intro L a w hsz hfree hr hnw hy hC hS H; refine ⟨fun h => (by rw [h] at hr; cases hr), fun j hj => ?_⟩; by_cases hji : j = i
  ·subst hji; exact hy.wpOp hi hC ⟨hS, H⟩
  have h1 := H.2 j (ready_mono hj hji); obtain ⟨hjun, oj, hoj, hall⟩ := mem_ready.1 hj; have hil := ready_lt hsz hr; have hjl := ready_lt hsz hj
  have hnot : ∀ e ∈ oj.after, Region.binds .any e = true → e.on ≠ i := fun e he hb heq => by
   have h1 := hall e he hb; have h0 := (mem_ready.1 hr).1; rw [heq, getD_conv hil false true, h0] at h1; cases h1
  have h2 := wpOp_putIf hoj (hfree j oj hoj hji hjun hnot) (fun cs b => hsel i oi cs b hi) (fun cs b => hsel j oj cs b hoj) hQ hy h1
  have hfree' : ∀ k ok, ops[k]? = some ok → k ≠ i → (L.setIfInBounds j true).getD k true = false →
    (∀ e ∈ ok.after, Region.binds .any e = true → e.on ≠ i) → oi.apart ops ok = true := fun k ok hk hki hun hno => by
   refine hfree k ok hk hki ?_ hno; by_cases hjk : j = k
   ·subst hjk; exact hjun
   rw [Go.getD_set_ne true hjk] at hun; exact hun
  refine wpOp_mono (fun a' w' h3 => ?_) h2; obtain ⟨hy', hS', H'⟩ := h3
  have hnwj : ¬ waitedL ops (L.setIfInBounds j true) i := fun h => by
   rcases (waited_set hjl).1 h with h | h
   ·exact hnw h
   exact not_edge hoj hnot h
  have hCi : C i w' := by
   refine hS' i hiE (fun h => ?_); rw [Array.setIfInBounds_comm _ _ (Ne.symm hji)] at h; rcases (waited_set (by simpa using hil)).1 h with h | h
   ·exact hnwj h
   exact hself h
  refine ⟨fun k hk hkw => ?_, ih (L.setIfInBounds j true) a' w' (by simpa using hsz) hfree' (ready_mono hr (Ne.symm hji)) hnwj hy' hCi ?_ ?_⟩
  ·by_cases hki : k ∈ edgesOf ops i
   ·exact hCt k hk hki w'
   refine hS' k hk (fun h => ?_); rw [Array.setIfInBounds_comm _ _ (Ne.symm hji)] at h; rcases (waited_set (by simpa using hil)).1 h with h | h
   ·exact hkw h
   exact hki h
  ·rw [Array.setIfInBounds_comm _ _ hji]; exact hS'
  rw [Array.setIfInBounds_comm _ _ hji]; exact H'
theorem wpAny_inv (E : List Nat) (C : Nat → World → Prop) (hns : Region.noSelect ops = true)
  (hfree : ∀ i ∈ E, ∀ oi, ops[i]? = some oi → ∀ (j : Nat) (oj : Oper), ops[j]? = some oj → j ≠ i → (∀ e ∈ oi.after, Region.binds .any e = true → e.on ≠ j) → (∀ e ∈ oj.after, Region.binds .any e = true → e.on ≠ i) → oi.apart ops oj = true)
  (hself : ∀ i ∈ E, i ∉ edgesOf ops i) (hCt : ∀ i ∈ E, ∀ j ∈ E, j ∈ edgesOf ops i → ∀ w, C j w)
  (hQ : ∀ d v c a w, Q (.panic c) (a.put d v) w → Q (.panic c) a w)
  (J : Array Bool → Act → World → Prop) (hsz : ∀ L a w, J L a w → L.size = ops.size) (hcl : ∀ L a w, J L a w → Closed ops L) (hJS : ∀ L a w, J L a w → SL ops E C L w)
  (hpure : ∀ L a w i o, J L a w → i ∈ E → i ∈ Region.ready .any ops L → ops[i]? = some o → ∃ v, YieldsIf P ops (C i) o v a ∧ C i w ∧ J (L.setIfInBounds i true) (a.put o.dst v) w)
  (hstep : ∀ L a w i, J L a w → (∀ e ∈ E, e ∉ Region.ready .any ops L) → i ∈ Region.ready .any ops L → wpOp P ops Q i (J (L.setIfInBounds i true)) a w)
  (hend : ∀ L a w, J L a w → Region.ready .any ops L = [] → Q .normal a w) :
  ∀ n L a w, L.toList.count false ≤ n → J L a w → wpAnyS P ops Q E C n L a w := by
 intro n
 induction n with
 | zero =>
  intro L a w hc hJ
  have hr : Region.ready .any ops L = [] := by
   rcases hrr : Region.ready .any ops L with _ | ⟨i, rs⟩
   ·rfl
   have hi : i ∈ Region.ready .any ops L := by rw [hrr]; exact List.mem_cons_self
   have h1 := ready_get (hsz _ _ _ hJ) hi; have h2 : 0 < L.toList.count false := List.count_pos_iff.2 (List.mem_of_getElem? h1); omega
  exact ⟨hr, hend _ _ _ hJ hr⟩
 | succ n ih =>
  intro L a w hc hJ
  have hnext : ∀ i, i ∈ Region.ready .any ops L → (L.setIfInBounds i true).toList.count false ≤ n := by
   intro i hi; have := count_set L.toList i (ready_get (hsz _ _ _ hJ) hi); simp only [Array.toList_setIfInBounds]; omega
  by_cases hE : ∃ e ∈ E, e ∈ Region.ready .any ops L
  ·obtain ⟨e, he, hr⟩ := hE; obtain ⟨hun0, o, ho, hall⟩ := mem_ready.1 hr; obtain ⟨v, hy, hC, hJ'⟩ := hpure L a w e o hJ he hr ho; have hel := ready_lt (hsz _ _ _ hJ) hr
   have hnw : ¬ waitedL ops L e := by
    rintro ⟨k, hk, hke⟩
    cases hok : ops[k]? with
    | none => unfold edgesOf at hke; rw [hok] at hke; cases hke
    | some ok =>
     have := edgesOf_listed hok (hcl _ _ _ hJ k ok hok hk) e hke; rw [getD_conv hel false true, hun0] at this; cases this
   exact wpAnyS_first ho (Region.noSelect_spec hns) (fun c a w h => hQ _ _ _ _ _ h) he (hself e he) (hCt e he) n L a w (hsz _ _ _ hJ) (fun j oj hj hne hun hno => hfree e he o ho j oj hj hne (fun f hf hb heq => by
    have h1 := hall f hf hb; have h2 : j < L.size := by have := (Array.getElem?_eq_some_iff.1 hj).1; have := hsz _ _ _ hJ; omega
    rw [heq] at h1; rw [getD_conv h2 true false, h1] at hun
    cases hun) hno) hr hnw hy hC (hJS _ _ _ hJ') (ih _ _ _ (hnext e hr) hJ')
  refine ⟨fun h => hend _ _ _ hJ h, fun i hi => wpOp_mono (fun a' w' h => ⟨hJS _ _ _ h, ih _ _ _ (hnext i hi) h⟩) (hstep L a w i hJ (fun e he hr => hE ⟨e, he, hr⟩) hi)⟩
def phaseB (ops : Array Oper) (n1 : Nat) (E : List Nat) : Bool :=
 (List.range ops.size).all (fun i => match ops[i]? with
  | none => true
  | some o => o.after.toList.all (fun e => !Region.binds .any e || decide (e.on < i)) &&
   (decide (i ≤ n1) || o.after.toList.any (fun e => Region.binds .any e && decide (e.on + 1 = i))) &&
   (!decide (i = n1) || (List.range n1).all (fun j => (clos ops 6 (edgesOf ops n1)).contains j || (E.contains j && (edgesOf ops j).all (fun k => (clos ops 6 (edgesOf ops n1)).contains k)))))
def freeB (ops : Array Oper) (E : List Nat) : Bool :=
 E.all (fun i => match ops[i]? with
  | none => true
  | some oi => (List.range ops.size).all (fun j => decide (j = i) || match ops[j]? with
   | none => true
   | some oj => oi.after.toList.any (fun e => Region.binds .any e && decide (e.on = j)) || (oj.after.toList.any (fun e => Region.binds .any e && decide (e.on = i)) || oi.apart ops oj)))
theorem freeB_spec {E : List Nat} (h : freeB ops E = true) : ∀ i ∈ E, ∀ oi, ops[i]? = some oi → ∀ (j : Nat) (oj : Oper), ops[j]? = some oj → j ≠ i → (∀ e ∈ oi.after, Region.binds .any e = true → e.on ≠ j) → (∀ e ∈ oj.after, Region.binds .any e = true → e.on ≠ i) → oi.apart ops oj = true := by
 intro i hi oi ho j oj hj hne hnj hno; unfold freeB at h; rw [List.all_eq_true] at h; have h1 := h i hi; rw [ho] at h1; simp only [List.all_eq_true, List.mem_range] at h1; have h2 := h1 j (Array.getElem?_eq_some_iff.1 hj).1; rw [hj] at h2; simp only [Bool.or_eq_true, decide_eq_true_eq, List.any_eq_true, Bool.and_eq_true] at h2; rcases h2 with h2 | ⟨e, he, hb, heq⟩ | ⟨e, he, hb, heq⟩ | h2
 ·exact absurd h2 hne
 ·exact absurd heq (hnj e (by simpa using he) hb)
 ·exact absurd heq (hno e (by simpa using he) hb)
 exact h2
theorem phaseB_back {n1 : Nat} {E : List Nat} (h : phaseB ops n1 E = true) {i : Nat} {o : Oper} (ho : ops[i]? = some o) :
  (∀ e ∈ o.after, Region.binds .any e = true → e.on < i) ∧ (n1 < i → ∃ e ∈ o.after, Region.binds .any e = true ∧ e.on + 1 = i) ∧
  (i = n1 → ∀ j, j < n1 → j ∈ clos ops 6 (edgesOf ops n1) ∨ (j ∈ E ∧ ∀ k ∈ edgesOf ops j, k ∈ clos ops 6 (edgesOf ops n1))) := by
 unfold phaseB at h; rw [List.all_eq_true] at h; have h1 := h i (List.mem_range.2 (Array.getElem?_eq_some_iff.1 ho).1); rw [ho] at h1; simp only [Bool.and_eq_true, Bool.or_eq_true, List.all_eq_true, List.any_eq_true, decide_eq_true_eq, Bool.not_eq_true', decide_eq_false_iff_not, List.mem_range, List.contains_iff_mem] at h1; obtain ⟨⟨ha, hb⟩, hc⟩ := h1; refine ⟨fun e he hbd => ?_, fun hn => ?_, fun hi j hj => ?_⟩
 ·rcases ha e (by simpa using he) with h | h
  ·rw [hbd] at h; cases h
  exact h
 ·rcases hb with h | ⟨e, he, h2, h3⟩
  ·omega
  exact ⟨e, by simpa using he, h2, h3⟩
 rcases hc with h | h
 ·exact absurd hi h
 exact h j hj
theorem rep_getD (n i : Nat) : (Array.replicate n false).getD i false = false := by
 simp only [Array.getD_eq_getD_getElem?, Array.getElem?_replicate]; split <;> rfl
def lateAt (ops : Array Oper) (E : List Nat) (k : Nat) : List Nat := E.filter (fun i => !(List.range k).any (fun j => (edgesOf ops j).contains i))
def SK (ops : Array Oper) (E : List Nat) (C : Nat → World → Prop) (k : Nat) (w : World) : Prop := ∀ i ∈ lateAt ops E k, C i w
def wpListS (P : Program) (ops : Array Oper) (Q : Exit → Act → World → Prop) (E : List Nat) (C : Nat → World → Prop) : Nat → List Oper → Act → World → Prop
 | _, [], a, w => Q .normal a w
 | k, o :: rest, a, w =>
  if Region.wanted o (yielded ops a.tmps) then o.wp P a w (fun a' w' => SK ops E C (k + 1) w' ∧ wpListS P ops Q E C (k + 1) rest a' w') Q ∨ (o.asks P a w ∧ LetsOut Q)
  else SK ops E C (k + 1) w ∧ wpListS P ops Q E C (k + 1) rest (a.put o.dst undef) w
theorem lateAt_succ {E : List Nat} {k i : Nat} (h : i ∈ lateAt ops E (k + 1)) : i ∈ lateAt ops E k := by
 unfold lateAt at *; rw [List.mem_filter] at *; refine ⟨h.1, ?_⟩; have h2 := h.2; simp only [Bool.not_eq_true', List.any_eq_false, List.mem_range] at h2 ⊢; exact fun j hj => h2 j (by omega)
theorem wpListS_plain {E : List Nat} {C : Nat → World → Prop} : ∀ (l : List Oper) (k : Nat) (a : Act) (w : World), (∀ i ∈ lateAt ops E (k + 1), ∀ w, C i w) → wpList P ops Q l a w → wpListS P ops Q E C k l a w
 | [], _, _, _, _, h => h
 | o :: l, k, a, w, hC, h => by
  have hK : ∀ w, SK ops E C (k + 1) w := fun w i hi => hC i hi w
  have hn : ∀ a w, wpList P ops Q l a w → SK ops E C (k + 1) w ∧ wpListS P ops Q E C (k + 1) l a w := fun a w h => ⟨hK w, wpListS_plain l (k + 1) a w (fun i hi => hC i (lateAt_succ hi)) h⟩
  unfold wpListS; unfold wpList at h; split
  ·next h1 =>
   rw [if_pos h1] at h; exact h.imp (Oper.wp_mono hn) (fun h => h)
  next h1 =>
  rw [if_neg h1] at h; exact hn _ _ h
theorem wp_region_phase {id n1 : Nat} {l : List Oper} {a0 : Act} {w0 : World} (E : List Nat) (C : Nat → World → Prop) (hm : P.follows .mixedOrders = true) (hns : Region.noSelect l.toArray = true) (hB : phaseB l.toArray n1 E = true) (hF : freeB l.toArray E = true) (hE : ∀ i ∈ E, i < n1) (hCt : ∀ i ∈ E, ∀ j ∈ E, j ∈ edgesOf l.toArray i → ∀ w, C j w) (hn : n1 ≤ l.length)
    (hQ : ∀ d v c a w, Q (.panic c) (a.put d v) w → Q (.panic c) a w)
    (I : Array Bool → Act → World → Prop) (h0 : I (Array.replicate l.length false) a0 w0.drew) (hIC : ∀ L a w, I L a w → ∀ i ∈ E, C i w)
    (hpure : ∀ L a w i o, I L a w → i ∈ E → i ∈ Region.ready .any l.toArray L → l[i]? = some o → ∃ v, YieldsIf P l.toArray (C i) o v a ∧ I (L.setIfInBounds i true) (a.put o.dst v) w)
    (hstep : ∀ L a w i, I L a w → i < n1 → i ∉ E → i ∈ Region.ready .any l.toArray L → wpOp P l.toArray Q i (I (L.setIfInBounds i true)) a w)
    (hend : ∀ L a w, I L a w → (∀ i, i < n1 → L.getD i false = true) → wpListS P l.toArray Q E C n1 (l.drop n1) a w) :
    (Code.region id l.toArray true).wp P Q a0 w0 := by
  refine wp_region_any hm ?_; have hrep : (Array.replicate l.toArray.size false) = Array.replicate l.length false := by simp
  rw [hrep]
  let J : Array Bool → Act → World → Prop := fun L a w => L.size = l.length ∧ Closed l.toArray L ∧
    ((I L a w ∧ ∀ i, n1 ≤ i → i < l.length → L.getD i true = false) ∨
     (∃ m, n1 + m ≤ l.length ∧ (∀ i, i < n1 + m → L.getD i false = true) ∧ (∀ i, n1 + m ≤ i → i < l.length → L.getD i true = false) ∧ SK l.toArray E C (n1 + m) w ∧ wpListS P l.toArray Q E C (n1 + m) (l.drop (n1 + m)) a w))
  have hlen : l.toArray.size = l.length := by simp
  have hclo : ∀ (L : Array Bool) i, L.size = l.length → Closed l.toArray L → i ∈ Region.ready .any l.toArray L → Closed l.toArray (L.setIfInBounds i true) := by
    intro L i hsz hc hi k o ho hk e he hb; obtain ⟨_, oi, hoi, hall⟩ := mem_ready.1 hi; have hil : i < L.size := by have := (Array.getElem?_eq_some_iff.1 hoi).1; simp at this; omega
    have hL : L.getD e.on false = true := by
      rw [set_getD _ hil] at hk; split at hk
      · next h => subst h; have : oi = o := by rw [hoi] at ho; exact Option.some.inj ho
                  subst this; exact hall e he hb
      exact hc k o ho hk e he hb
    rw [set_getD _ hil]; split
    · rfl
    exact hL
  -- a state in which all of the first phase have come up
  have hseq : ∀ L a w m i, L.size = l.length → Closed l.toArray L → n1 + m ≤ l.length → (∀ i, i < n1 + m → L.getD i false = true) → (∀ i, n1 + m ≤ i → i < l.length → L.getD i true = false) → SK l.toArray E C (n1 + m) w → wpListS P l.toArray Q E C (n1 + m) (l.drop (n1 + m)) a w →
      i ∈ Region.ready .any l.toArray L → wpOp P l.toArray Q i (J (L.setIfInBounds i true)) a w := by
    intro L a w m i hsz hcl hml hlo hhi hsk hw hi; obtain ⟨hi0, o, ho, hall⟩ := mem_ready.1 hi; have hil : i < l.length := by have := (Array.getElem?_eq_some_iff.1 ho).1; simpa using this
    have hige : n1 + m ≤ i := by
      rcases Nat.lt_or_ge i (n1 + m) with h | h
      · have := hlo i h; rw [getD_conv (by omega) false true, hi0] at this; cases this
      exact h
    have hie : i = n1 + m := by
      rcases Nat.lt_or_ge (n1 + m) i with h | h
      · obtain ⟨e, he, hb, heq⟩ := (phaseB_back hB ho).2.1 (by omega); have h1 := hall e he hb; have h2 := hhi e.on (by omega) (by omega); rw [getD_conv (by omega) true false, h1] at h2; cases h2
      omega
    subst hie; have ho' : l[n1 + m]? = some o := by simpa using ho
    have hd : l.drop (n1 + m) = o :: l.drop (n1 + m + 1) := by
      rw [List.drop_eq_getElem_cons (by omega)]; congr 1
      rw [List.getElem?_eq_getElem hil] at ho'; exact Option.some.inj ho'
    rw [hd] at hw
    have hJ : ∀ a w, (SK l.toArray E C (n1 + m + 1) w ∧ wpListS P l.toArray Q E C (n1 + m + 1) (l.drop (n1 + m + 1)) a w) → J (L.setIfInBounds (n1 + m) true) a w := by
      intro a w h; refine ⟨by simp [hsz], hclo L _ hsz hcl hi, .inr ⟨m + 1, by omega, fun i hi => ?_, fun i hi hl => ?_, h.1, h.2⟩⟩
      · rw [set_getD _ (by omega)]; split
        · rfl
        exact hlo i (by omega)
      rw [set_getD _ (by omega), if_neg (by omega)]; exact hhi i (by omega) hl
    unfold wpOp; rw [ho]; unfold wpListS at hw; simp only; split
    · next h1 =>
      rw [if_pos h1] at hw; exact hw.imp (Oper.wp_mono hJ) (fun h => h)
    next h1 =>
    rw [if_neg h1] at hw; exact hJ _ _ hw
  refine wpAny_of_S _ _ _ _ (wpAny_inv E C hns (freeB_spec hF) (fun i hi h => ?_) hCt hQ J (fun L a w h => by simpa using h.1) (fun L a w h => h.2.1) ?_ ?_ ?_ ?_ _ _ a0 _ ?_ ?_)
  · have hil : i < l.length := by have := hE i hi; omega
    have hoi : l.toArray[i]? = some l[i] := by simp [hil]
    exact not_edge hoi (fun e he hb heq => by have := (phaseB_back hB hoi).1 e he hb; omega) h
  · intro L a w ⟨hsz, hcl, hh⟩ i hi hnw; rcases hh with ⟨hI, hun⟩ | ⟨m, hml, hlo, hhi, hsk, hw⟩
    · exact hIC L a w hI i hi
    refine hsk i (List.mem_filter.2 ⟨hi, ?_⟩); simp only [Bool.not_eq_true', List.any_eq_false, List.mem_range, List.contains_iff_mem]; intro j hj hji; exact hnw ⟨j, hlo j hj, hji⟩
  · intro L a w i o hJ hi hr ho; obtain ⟨hsz, hcl, ⟨hI, hun⟩ | ⟨m, hml, hlo, hhi, hsk, hw⟩⟩ := hJ
    · obtain ⟨v, hy, hI'⟩ := hpure L a w i o hI hi hr (by simpa using ho); refine ⟨v, hy, hIC L a w hI i hi, by simp [hsz], hclo L i hsz hcl hr, .inl ⟨hI', fun j hj hjl => ?_⟩⟩; have := hE i hi; rw [set_getD _ (by omega), if_neg (by omega)]; exact hun j hj hjl
    have h1 := hlo i (by have := hE i hi; omega); have h2 := (mem_ready.1 hr).1; have := hE i hi; rw [getD_conv (by omega) false true, h2] at h1; cases h1
  · intro L a w i hJ hno hr; obtain ⟨hsz, hcl, ⟨hI, hun⟩ | ⟨m, hml, hlo, hhi, hsk, hw⟩⟩ := hJ
    · rcases Nat.lt_or_ge i n1 with hin | hin
      · have hiE : i ∉ E := fun h => hno i h hr
        refine wpOp_mono (fun a' w' h => ?_) (hstep L a w i hI hin hiE hr); refine ⟨by simp [hsz], hclo L i hsz hcl hr, .inl ⟨h, fun j hj hjl => ?_⟩⟩; rw [set_getD _ (by omega), if_neg (by omega)]; exact hun j hj hjl
      obtain ⟨hi0, o, ho, hall⟩ := mem_ready.1 hr; have hil : i < l.length := by have := (Array.getElem?_eq_some_iff.1 ho).1; simpa using this
      have hie : i = n1 := by
        rcases Nat.lt_or_ge n1 i with h | h
        · obtain ⟨e, he, hb, heq⟩ := (phaseB_back hB ho).2.1 h; have h1 := hall e he hb; have h2 := hun e.on (by omega) (by omega); rw [getD_conv (by omega) true false, h1] at h2; cases h2
        omega
      subst hie
      have hlo : ∀ j, j < i → L.getD j false = true := by
        intro j hj; have hS := clos_listed hcl 6 _ (edgesOf_listed ho hall); rcases (phaseB_back hB ho).2.2 rfl j hj with h | ⟨hjE, hf⟩
        · exact hS j h
        cases hL : L.getD j false with
        | true => rfl
        | false =>
          exfalso; have hjl : j < l.length := by omega
          have hp : l.toArray[j]? = some l[j] := by simp [hjl]
          refine hno j hjE (mem_ready.2 ⟨by rw [getD_conv (by omega) true false]; exact hL, l[j], hp, fun f hf' hb => ?_⟩); refine hS _ (hf _ ?_); unfold edgesOf; rw [hp]; simp only [List.mem_map, List.mem_filter]; exact ⟨f, ⟨by simpa using hf', hb⟩, rfl⟩
      exact hseq L a w 0 i hsz hcl (by omega) (fun j hj => hlo j (by omega)) (fun j hj hjl => hun j (by omega) hjl) (fun k hk => hIC L a w hI k (List.mem_filter.1 hk).1) (hend L a w hI hlo) hr
    exact hseq L a w m i hsz hcl hml hlo hhi hsk hw hr
  · intro L a w hJ hr
    have hnr : ∀ i, i < l.length → (∀ j, j < i → L.getD j false = true) → L.getD i true = false → False := by
      intro i hil hlo hi; have : i ∈ Region.ready .any l.toArray L := mem_ready.2 ⟨hi, l[i], by simp [hil], fun e he hb => hlo _ ((phaseB_back hB (show l.toArray[i]? = some l[i] by simp [hil])).1 e he hb)⟩; rw [hr] at this; cases this
    obtain ⟨hsz, hcl, ⟨hI, hun⟩ | ⟨m, hml, hlo, hhi, hsk, hw⟩⟩ := hJ
    · have hall : ∀ i, i < n1 → L.getD i false = true := by
        intro i
        induction i using Nat.strongRecOn with
        | _ i ih =>
          intro hi
          cases hL : L.getD i false with
          | true => rfl
          | false => exact (hnr i (by omega) (fun j hj => ih j hj (by omega)) (by rw [getD_conv (by omega) true false]; exact hL)).elim
      have hle : l.length ≤ n1 := by
        rcases Nat.lt_or_ge n1 l.length with h | h
        · exact (hnr n1 h hall (hun n1 (Nat.le_refl _) h)).elim
        exact h
      have := hend L a w hI hall; rw [List.drop_eq_nil_of_le hle] at this; exact this
    have hle : l.length ≤ n1 + m := by
      rcases Nat.lt_or_ge (n1 + m) l.length with h | h
      · exact (hnr (n1 + m) h hlo (hhi _ (Nat.le_refl _) h)).elim
      exact h
    rw [List.drop_eq_nil_of_le hle] at hw; exact hw
  · simp
  refine ⟨by simp, ?_, .inl ⟨h0, fun i hi hil => by simp [hil]⟩⟩; intro k o _ hk; rw [rep_getD] at hk; cases hk
def putAll (a : Act) (ds : List Nat) (vs : Nat → Value) : Act := ds.foldl (fun a d => a.put (some d) (vs d)) a
theorem PA : (∀ (a : Act) (d : Nat) (ds : List Nat) (vs : Nat → Value), putAll a (d :: ds) vs = putAll (a.put (some d) (vs d)) ds vs) ∧ (∀ (a : Act) (vs : Nat → Value), putAll a [] vs = a) ∧ (∀ (a : Act) (d : Option Nat) (v : Value), a.put d v = match d with | some k => { a with tmps := a.tmps.setIfInBounds k v } | none => a) ∧ (∀ (l : List Value) (i : Nat) (v : Value), l.toArray.setIfInBounds i v = (l.set i v).toArray) ∧ (∀ (x : Value) (l : List Value) (i : Nat) (v : Value), (x :: l).set (i + 1) v = x :: l.set i v) ∧ (∀ (x : Value) (l : List Value) (v : Value), (x :: l).set 0 v = v :: l) ∧ (∀ (x : Oper) (l : List Oper) (i : Nat), (x :: l).drop (i + 1) = l.drop i) ∧ ∀ l : List Oper, l.drop 0 = l := ⟨fun _ _ _ _ => rfl, fun _ _ => rfl, fun _ d _ => by cases d <;> rfl, fun _ _ _ => List.setIfInBounds_toArray .., fun _ _ _ _ => rfl, fun _ _ _ => rfl, fun _ _ _ => rfl, fun _ => rfl⟩
theorem aL {P X Y : Prop} (x : X) (p : P := by exact rfl) : (P ∧ X) ∨ Y := .inl ⟨p, x⟩
theorem aG {A B C X Y : Prop} (b : B) (x : X) (a : A := by exact rfl) : ((A ∧ (B ∨ C)) ∧ X) ∨ Y := .inl ⟨⟨a, .inl b⟩, x⟩
theorem aS {A B C X Y : Prop} (b : B) (a : A := by exact rfl) (x : X := by exact rfl) : Y ∨ ((A ∧ (B ∨ C)) ∧ X) := .inr ⟨⟨a, .inl b⟩, x⟩
theorem putAll_eq {a : Act} : ∀ (ds : List Nat) (b : Act), b.defers = a.defers → b.tmps.size = a.tmps.size → (∀ d ∈ ds, d < a.tmps.size) → (∀ t, t ∉ ds → b.tmps[t]? = a.tmps[t]?) → putAll b ds (fun t => a.eval (.tmp t)) = a
 | [], b, hd, hs, _, h => by
  obtain ⟨bt, bd⟩ := b; obtain ⟨at_, ad⟩ := a; simp only at hd hs h; subst hd; show (⟨bt, bd⟩ : Act) = ⟨at_, bd⟩; congr 1
  apply Array.ext_getElem?; intro t; exact h t (by simp)
 | d :: ds, b, hd, hs, hlt, h => by
  have hdl := hlt d (by simp); refine putAll_eq ds (b.put (some d) (a.eval (.tmp d))) hd (by simp [Act.put, hs]) (fun e he => hlt e (by simp [he])) (fun t ht => ?_); by_cases htd : d = t
  ·subst htd; simp [Act.put, Act.eval, hs, hdl]
  show (b.tmps.setIfInBounds d _)[t]? = _; rw [Array.getElem?_setIfInBounds_ne htd]; exact h t (by simp [ht, Ne.symm htd])
theorem eval_put_same {a : Act} {d : Nat} (h : d < a.tmps.size) (v : Value) : (a.put (some d) v).eval (.tmp d) = v := by
 simp [Act.put, Act.eval, h]
theorem eval_put_other {a : Act} {d t : Nat} (h : d ≠ t) (v : Value) : (a.put (some d) v).eval (.tmp t) = a.eval (.tmp t) := by
 simp [Act.put, Act.eval, Array.getElem?_setIfInBounds_ne h]
def Post (a : Act) (w : World) (d : Nat) (R : Value → World → Prop) : Act → World → Prop := fun a' w' => ∃ v, a' = a.put (some d) v ∧ Below w.heap.size w w' ∧ R v w'
def VarB (l : List Oper) (n1 : Nat) (ds E AL : List Nat) (T : TypeId) (n : Nat) : Bool :=
 decide (ds.length = n1) && decide (n1 ≤ l.length) && ds.all (fun d => decide (d < n)) && decide ds.Nodup && E.all (fun i => decide (i < n1) && !AL.contains i) && AL.all (fun i => decide (i < n1)) &&
 (List.range n1).all (fun i => match l[i]? with | none => false | some o => decide (o.dst = some (ds.getD i 0)) && o.guard.isNone && (!AL.contains i || match o.op with | .alloc t => t == T | _ => false))
def Deps (l : List Oper) (ds AL : List Nat) (V : Nat → Value → World → Prop) (i : Nat) (a : Act) (w : World) : Prop :=
 ∀ j, (((l[i]?).map (fun o => o.after.toList.any (fun e => Region.binds .any e && decide (e.on = j)))).getD false && !AL.contains j) = true → V j (a.eval (.tmp (ds.getD j 0))) w
theorem nodup_ne {ds : List Nat} (h : ds.Nodup) {i j : Nat} (hi : i < ds.length) (hj : j < ds.length) (hne : i ≠ j) : ds.getD i 0 ≠ ds.getD j 0 := by
 simp only [List.getD_eq_getElem?_getD, List.getElem?_eq_getElem hi, List.getElem?_eq_getElem hj, Option.getD_some]; intro he; exact hne ((List.getElem_inj h).1 he)
theorem wp_region_vars {id : Nat} (n1 : Nat) {l : List Oper} {a0 : Act} {w0 : World} (ds E AL : List Nat) (T : TypeId) (z : List Value) (V : Nat → Value → World → Prop) (C : Nat → World → Prop)
  (hm : P.follows .mixedOrders = true) (hns : Region.noSelect l.toArray = true) (hB : phaseB l.toArray n1 E = true) (hF : freeB l.toArray E = true) (hD : VarB l n1 ds E AL T a0.tmps.size = true)
  (hCt : ∀ i ∈ E, ∀ j ∈ E, j ∈ edgesOf l.toArray i → ∀ w, C j w) (hC0 : ∀ i ∈ E, ∀ w, Below w0.heap.size w0 w → C i w)
  (hz : ∀ w : World, (Instr.alloc T true (.tuple #[])).run P w = .ok (.pointer (some ⟨w.heap.size, 0, none⟩)) (w.alloc (.cells z.toArray T)))
  (hQ : ∀ d v c a w, Q (.panic c) (a.put d v) w → Q (.panic c) a w)
  (hV : ∀ i v w w', V i v w → Below w.heap.size w w' → V i v w')
  (hop : ∀ i, i < n1 → AL.contains i = false → ∀ a w, Below w0.heap.size w0 w → (∀ t, ds.contains t = false → a.eval (.tmp t) = a0.eval (.tmp t)) → Deps l ds AL V i a w →
   match l[i]? with | none => True | some o => if E.contains i then ∃ v, (∀ w, C i w → (execOp a.eval o).run P w = .ok (.value v) w) ∧ V i v w else o.wp P a w (Post a w (ds.getD i 0) (V i)) Q)
  (hend : ∀ (vs : Nat → Value) (w : World), Below w0.heap.size w0 w → (∀ i, i < n1 → AL.contains i = false → V i (vs (ds.getD i 0)) w) →
   (∀ i, AL.contains i = true → ∃ g, vs (ds.getD i 0) = .pointer (some ⟨g, 0, none⟩) ∧ w0.heap.size ≤ g ∧ Blk w g T z) → (∀ i j, AL.contains i = true → AL.contains j = true → i ≠ j → vs (ds.getD i 0) ≠ vs (ds.getD j 0)) → wpListS P l.toArray Q E C n1 (l.drop n1) (putAll a0 ds vs) w) :
  (Code.region id l.toArray true).wp P Q a0 w0 := by
 unfold VarB at hD; simp only [Bool.and_eq_true, decide_eq_true_eq, List.all_eq_true, List.mem_range] at hD; obtain ⟨⟨⟨⟨⟨⟨hdl, hnl⟩, hdt⟩, hnd⟩, hEE⟩, hAA⟩, hops⟩ := hD
 have hop1 : ∀ i, i < n1 → ∃ o, l[i]? = some o ∧ o.dst = some (ds.getD i 0) ∧ o.guard = none ∧ (AL.contains i = true → o.op = .alloc T) := by
  intro i hi; have h := hops i hi
  cases ho : l[i]? with
  | none => rw [ho] at h; cases h
  | some o =>
   rw [ho] at h; simp only [Bool.and_eq_true, decide_eq_true_eq, Bool.or_eq_true, Bool.not_eq_true', Option.isNone_iff_eq_none] at h; refine ⟨o, rfl, h.1.1, h.1.2, fun hA => ?_⟩; rcases h.2 with h2 | h2
   ·rw [hA] at h2; cases h2
   revert h2
   cases o.op <;> simp
 have hdi : ∀ i, i < n1 → ds.getD i 0 < a0.tmps.size := by
  intro i hi
  have : ds.getD i 0 ∈ ds := by
   rw [List.getD_eq_getElem?_getD, List.getElem?_eq_getElem (by omega)]; exact List.getElem_mem _
  exact hdt _ this
 let F : Nat → Value → World → Prop := fun i v w => if AL.contains i then ∃ g, v = .pointer (some ⟨g, 0, none⟩) ∧ w0.heap.size ≤ g ∧ Blk w g T z else V i v w
 have hFs : ∀ i v w w', F i v w → Below w.heap.size w w' → F i v w' := by
  intro i v w w' h hb; show if _ then _ else _
  have h' : if _ then _ else _ := h
  split at h'
  ·next hA =>
   rw [if_pos hA]; obtain ⟨g, h1, h2, h3⟩ := h'; exact ⟨g, h1, h2, h3.to hb⟩
  next hA => rw [if_neg hA]; exact hV _ _ _ _ h' hb
 let I : Array Bool → Act → World → Prop := fun L a w => Below w0.heap.size w0 w ∧ L.size = l.length ∧ a.defers = a0.defers ∧ a.tmps.size = a0.tmps.size ∧ (∀ t, t ∉ ds → a0.tmps[t]? = a.tmps[t]?) ∧
  (∀ i, i < n1 → L.getD i false = true → F i (a.eval (.tmp (ds.getD i 0))) w) ∧
  (∀ i j, AL.contains i = true → AL.contains j = true → i ≠ j → L.getD i false = true → L.getD j false = true → a.eval (.tmp (ds.getD i 0)) ≠ a.eval (.tmp (ds.getD j 0)))
 have hAlt : ∀ i, AL.contains i = true → i < n1 := fun i h => hAA i (by simpa using h)
 -- an operation that is no new variable
 have key : ∀ L a w i v w', I L a w → i < n1 → Below w.heap.size w w' → F i v w' → (AL.contains i = true → ∀ j, AL.contains j = true → i ≠ j → L.getD j false = true → v ≠ a.eval (.tmp (ds.getD j 0))) → I (L.setIfInBounds i true) (a.put (some (ds.getD i 0)) v) w' := by
  intro L a w i v w' ⟨hb, hsz, hdf, hts, hot, hf, hne⟩ hi hb' hv hd; refine ⟨below_then hb hb.size hb', by simp [hsz], hdf, by simp [Act.put, hts], fun t ht => ?_, fun j hj hL => ?_, fun j k hj hk hjk hLj hLk => ?_⟩
  ·have : ds.getD i 0 ≠ t := fun e => ht (by rw [← e, List.getD_eq_getElem?_getD, List.getElem?_eq_getElem (by omega)]; exact List.getElem_mem _)
   show _ = (a.tmps.setIfInBounds _ _)[t]?; rw [Array.getElem?_setIfInBounds_ne this]; exact hot t ht
  ·by_cases hij : j = i
   ·subst hij; rw [eval_put_same (by rw [hts]; exact hdi _ hi)]; exact hv
   rw [eval_put_other (nodup_ne hnd (by omega) (by omega) (Ne.symm hij))]; rw [set_getD _ (by omega), if_neg hij] at hL; exact hFs _ _ _ _ (hf j hj hL) hb'
  have hjn := hAlt j hj; have hkn := hAlt k hk; by_cases hji : j = i
  ·subst hji; rw [eval_put_same (by rw [hts]; exact hdi _ hi), eval_put_other (nodup_ne hnd (by omega) (by omega) hjk)]; rw [set_getD _ (by omega), if_neg (Ne.symm hjk)] at hLk; exact hd hj k hk hjk hLk
  by_cases hki : k = i
  ·subst hki; rw [eval_put_same (by rw [hts]; exact hdi _ hi), eval_put_other (nodup_ne hnd (by omega) (by omega) (Ne.symm hji))]; rw [set_getD _ (by omega), if_neg hji] at hLj; exact Ne.symm (hd hk j hj (Ne.symm hjk) hLj)
  rw [eval_put_other (nodup_ne hnd (by omega) (by omega) (Ne.symm hji)), eval_put_other (nodup_ne hnd (by omega) (by omega) (Ne.symm hki))]; rw [set_getD _ (by omega), if_neg hji] at hLj; rw [set_getD _ (by omega), if_neg hki] at hLk; exact hne j k hj hk hjk hLj hLk
 have hpre : ∀ L a w i o, I L a w → i < n1 → i ∈ Region.ready .any l.toArray L → l[i]? = some o → (∀ t, ds.contains t = false → a.eval (.tmp t) = a0.eval (.tmp t)) ∧ Deps l ds AL V i a w := by
  intro L a w i o ⟨hb, hsz, hdf, hts, hot, hf, hne⟩ hi hr ho; obtain ⟨_, o', ho', hall⟩ := mem_ready.1 hr; have : o' = o := by simpa [ho] using ho'.symm
  subst this; refine ⟨fun t ht => ?_, fun j hj => ?_⟩
  ·have := hot t (by simpa using ht); show a.tmps.getD t undef = a0.tmps.getD t undef; simp only [Array.getD_eq_getD_getElem?, this]
  rw [ho] at hj; simp only [Option.map_some, Option.getD_some, Bool.and_eq_true, Bool.not_eq_true', List.any_eq_true, decide_eq_true_eq] at hj; obtain ⟨⟨e, he, hbd, heq⟩, hA⟩ := hj; have hj1 : j < i := by rw [← heq]; exact (phaseB_back hB ho').1 e (by simpa using he) hbd
  have h1 := hf j (by omega) (by rw [← heq]; exact hall e (by simpa using he) hbd); have h2 : if AL.contains j then _ else _ := h1
  rw [if_neg (by rw [hA]; simp)] at h2; exact h2
 refine wp_region_phase (n1 := n1) E C hm hns hB hF (fun i hi => by have := hEE i hi; simp at this; exact this.1) hCt hnl hQ I ?_ (fun L a w h i hi => hC0 i hi w h.1) ?_ ?_ ?_
 ·refine ⟨below_drew (Below.refl _ _), by simp, rfl, rfl, fun _ _ => rfl, fun i hi hL => ?_, fun i j _ _ _ hL _ => ?_⟩
  ·rw [rep_getD] at hL; cases hL
  rw [rep_getD] at hL; cases hL
 ·intro L a w i o hI hi hr ho; have hEi := hEE i hi; simp only [Bool.and_eq_true, decide_eq_true_eq, Bool.not_eq_true'] at hEi; obtain ⟨h1, h2⟩ := hpre L a w i o hI hEi.1 hr ho; have h3 := hop i hEi.1 hEi.2 a w hI.1 h1 h2; rw [ho] at h3; simp only at h3; rw [if_pos (by simpa using hi)] at h3; obtain ⟨v, hy, hv⟩ := h3; obtain ⟨o', ho', hdst, hg, _⟩ := hop1 i hEi.1; have : o' = o := by rw [ho] at ho'; exact (Option.some.inj ho').symm
  subst this; refine ⟨v, .inl ⟨by simp [Region.wanted, hg], hy⟩, ?_⟩; rw [hdst]; exact key L a w i v w hI hEi.1 (Below.refl _ _) (by show if _ then _ else _; rw [if_neg (by rw [hEi.2]; simp)]; exact hv) (fun h => by rw [hEi.2] at h; cases h)
 ·intro L a w i hI hi hE hr; obtain ⟨o, ho, hdst, hg, hal⟩ := hop1 i hi; obtain ⟨h1, h2⟩ := hpre L a w i o hI hi hr ho; unfold wpOp; have ho2 : l.toArray[i]? = some o := by simpa using ho
  rw [ho2]; simp only; rw [if_pos (by simp [Region.wanted, hg])]; refine .inl ?_; by_cases hA : AL.contains i = true
  ·unfold Oper.wp execOp; simp only [hal hA, Sem.run_bind, hz, Result.andThen_ok, Sem.run_pure, Oper.upon, hdst]; refine key L a w i _ _ hI hi (below_alloc (Below.refl _ _) _) ?_ ?_
   ·show if _ then _ else _
    rw [if_pos hA]; exact ⟨_, rfl, hI.1.size, heap_alloc_new _ _⟩
   intro _ j hj hij hL; have h3 : if AL.contains j then _ else _ := hI.2.2.2.2.2.1 j (hAlt j hj) hL
   rw [if_pos hj] at h3; obtain ⟨g, hg1, _, hg2⟩ := h3; rw [hg1]; intro he; have := hg2.lt; injection he with he
   injection he with he
   injection he with he
   omega
  have hA' : AL.contains i = false := by simpa using hA
  have h3 := hop i hi hA' a w hI.1 h1 h2; rw [ho] at h3; simp only at h3; rw [if_neg (by simpa using hE)] at h3; refine Oper.wp_mono (fun a' w' h => ?_) h3; obtain ⟨v, rfl, hb', hv⟩ := h; exact key L a w i v w' hI hi hb' (by show if _ then _ else _; rw [if_neg hA]; exact hv) (fun h => absurd h hA)
 intro L a w hI hall; obtain ⟨hb, hsz, hdf, hts, hot, hf, hne⟩ := hI; have he := putAll_eq (a := a) ds a0 hdf.symm hts.symm (fun d hd => by rw [hts]; exact hdt d hd) hot; rw [← he]; refine hend (fun t => a.eval (.tmp t)) w hb (fun i hi hA => ?_) (fun i hA => ?_) (fun i j hi hj hij => hne i j hi hj hij (hall i (hAlt i hi)) (hall j (hAlt j hj)))
 ·have h3 : if AL.contains i then _ else _ := hf i hi (hall i hi)
  rw [if_neg (by rw [hA]; simp)] at h3; exact h3
 have h3 : if AL.contains i then _ else _ := hf i (hAlt i hA) (hall i (hAlt i hA))
 rw [if_pos hA] at h3; exact h3
end
end Go.Proofs.YtdfhhceboacdcaaGreatDoor
