/- Part 21 of the texts behind this claim. -/
import Derived.Test.YtdfhhceboacdcaaGreatDoorGk20
set_option linter.unusedVariables false
set_option linter.unusedSimpArgs false
namespace Go.Proofs.YtdfhhceboacdcaaGreatDoor
open Go.RowKit
def rawN (z : Int) (A : Option Addr) (c : Nat) : Raw := ⟨decide (z < 0), A, c, dig z.natAbs⟩
theorem rawN_at {z : Int} {A : Option Addr} {c : Nat} {w : World} (h : NN w A c z.natAbs) : (rawN z A c).at_ w := ⟨h.1, dg_dig _, h.2.1, h.2.2⟩
theorem rawN_val (z : Int) (A : Option Addr) (c : Nat) : (rawN z A c).val = z := by
 unfold Raw.val rawN; simp only [val_dig, decide_eq_true_eq]; split <;> omega
theorem rawN_ok {z : Int} (A : Option Addr) (c : Nat) (h : ln z.natAbs ≤ 256) : (rawN z A c).ok = true := by
 have h0 : (rawN z A c).ok = (decide (ln z.natAbs ≤ 256) && (!(decide (ln z.natAbs = 0) && decide (z < 0))) && (!(decide (0 < ln z.natAbs) && decide ((dig z.natAbs).getD (ln z.natAbs - 1) 0 = 0)))) := rfl
 have h1 : (!(decide (ln z.natAbs = 0) && decide (z < 0))) = true := by
  have := ln_eq_zero (n := z.natAbs); simp; omega
 have h2 : (!(decide (0 < ln z.natAbs) && decide ((dig z.natAbs).getD (ln z.natAbs - 1) 0 = 0))) = true := by
  by_cases h : 0 < ln z.natAbs
  ·have := dig_last z.natAbs (ln z.natAbs - 1) (by unfold ln at h ⊢; omega); rw [decide_eq_false this]; simp
  simp [h]
 rw [h0, h1, h2, decide_eq_true h]; rfl
def qN (n : Int) (A1 : Option Addr) (c1 : Nat) (d : Int) (A2 : Option Addr) (c2 : Nat) : RQ := ⟨rawN n A1 c1, rawN d A2 c2⟩
theorem qN_ok {n d : Int} {A1 A2 : Option Addr} {c1 c2 : Nat} (h1 : ln n.natAbs ≤ 256) (h2 : ln d.natAbs ≤ 256) : (qN n A1 c1 d A2 c2).ok = (decide (0 < d) && decide (Nat.gcd n.natAbs d.natAbs = 1)) := by
 unfold RQ.ok qN; rw [rawN_ok A1 c1 h1, rawN_ok A2 c2 h2, rawN_val, rawN_val]; rfl
theorem qN_cs (n d : Int) (A1 A2 : Option Addr) (c1 c2 : Nat) : (qN n A1 c1 d A2 c2).cs = [.bool (decide (n < 0)), .slice A1 (ln n.natAbs) c1, .bool (decide (d < 0)), .slice A2 (ln d.natAbs) c2] := rfl
def RetQE (n d k : Int) (w : World) (e : Ending) (w' : World) : Prop :=
 ∃ A1 c1 A2 c2, e = .returned (.tuple #[.agg #[.bool (decide (n < 0)), .slice A1 (ln n.natAbs) c1, .bool (decide (d < 0)), .slice A2 (ln d.natAbs) c2], .int .i64 k]) ∧ NN w' A1 c1 n.natAbs ∧ NN w' A2 c2 d.natAbs ∧ Below w.heap.size w w'
def rqN (l : List UInt8) : Int := if rpOk l = true then rpN l else 0
def rqD (l : List UInt8) : Int := if rpOk l = true then rpD l else 0
def rqE (l : List UInt8) : Int := if rpOk l = true then 0 else 6
theorem retQE_err {w w' : World} (h : Below w.heap.size w w') {l : List UInt8} (ho : rpOk l = false) : RetQE (rqN l) (rqD l) (rqE l) w (.returned (.tuple #[.agg #[.bool false, .slice none 0 0, .bool false, .slice none 0 0], .int .i64 6])) w' := by
 unfold rqN rqD rqE; rw [ho]; simp only [Bool.false_eq_true, if_false]; have h0 : ln (Int.natAbs 0) = 0 := ln_zero; exact ⟨none, 0, none, 0, by rw [h0]; rfl, NN.nil _ _ _ (by omega), NN.nil _ _ _ (by omega), h⟩
theorem set_four {w : World} {g : Nat} {t : TypeId} {x0 x1 x2 x3 : Value} (h : Blk w g t [x0, x1, x2, x3]) (y0 y1 y2 y3 : Value) :
  Blk ((((w.setCell ⟨g, 0, none⟩ y0).setCell ⟨g, 1, none⟩ y1).setCell ⟨g, 2, none⟩ y2).setCell ⟨g, 3, none⟩ y3) g t [y0, y1, y2, y3] :=
 (((h.set_ 0 y0).set_ 1 y1).set_ 2 y2).set_ 3 y3
theorem NN.set4 {w : World} {A : Option Addr} {c n g : Nat} {t : TypeId} {b b' : Bool} {A1 A2 : Option Addr} {n1 c1 n2 c2 : Nat} (h : NN w A c n) (hB : Blk w g t [.bool b, .slice A1 n1 c1, .bool b', .slice A2 n2 c2]) (y0 y1 y2 y3 : Value) :
  NN ((((w.setCell ⟨g, 0, none⟩ y0).setCell ⟨g, 1, none⟩ y1).setCell ⟨g, 2, none⟩ y2).setCell ⟨g, 3, none⟩ y3) A c n :=
 (((h.set_ (hB.cell 0) (by intro t; simp) y0).set_ ((hB.set_ 0 y0).cell 1) (by intro t; simp) y1).set_ (((hB.set_ 0 y0).set_ 1 y1).cell 2) (by intro t; simp) y2).set_ ((((hB.set_ 0 y0).set_ 1 y1).set_ 2 y2).cell 3) (by intro t; simp) y3
set_option maxHeartbeats 1000000 in
set_option maxRecDepth 100000 in
theorem RatParse_calls (l : List UInt8) (w : World) (hl : l.length ≤ 140737488355328) : Calls Tryz.prog 5 #[.string ⟨l.toArray⟩] w (RetQE (rqN l) (rqD l) (rqE l) w) := by
 have HC := Hd.mk (fun W => cut_calls l W hl); obtain ⟨a, ha⟩ : ∃ a, a = (cutL l).1 := ⟨_, rfl⟩; obtain ⟨b, hb⟩ : ∃ a, a = (cutL l).2.1 := ⟨_, rfl⟩; obtain ⟨f, hf⟩ : ∃ a, a = (cutL l).2.2 := ⟨_, rfl⟩
 have hlen : a.length ≤ l.length ∧ b.length ≤ l.length := by
  rcases cutL_spec l with ⟨x, y, e1, e2, _⟩ | ⟨e1, _⟩
  ·rw [ha, hb, e1]; simp only; rw [e2]; simp; omega
  rw [ha, hb, e1]; simp
 have hla : a.length ≤ 140737488355328 := by omega
 have hlb : b.length ≤ 140737488355328 := by omega
 rw [← ha, ← hb, ← hf] at HC; have HA := Hd.mk ha; have HBB := Hd.mk hb; have HF := Hd.mk hf; clear ha hb hf hlen; go_enter Tryz.func5, Tryz.ntmps5
 go_wp2_with fail
 obtain ⟨W0, hW0⟩ : ∃ W : World, W = w.alloc (.cells #[.bool false, .slice none 0 0, .bool false, .slice none 0 0] 26) := ⟨_, rfl⟩; rw [← hW0]; have HQ : Hd (Blk W0 w.heap.size 26 [.bool false, .slice none 0 0, .bool false, .slice none 0 0]) := ⟨by rw [hW0]; exact heap_alloc_new _ _⟩; have HW : Hd (Below w.heap.size w W0) := ⟨by rw [hW0]; exact below_alloc (Below.refl _ _) _⟩; clear hW0; refine (HC.out _).mono ?_; rintro e w1 ⟨rfl, hb1⟩; have HB : Hd (Below W0.heap.size W0 w1) := ⟨hb1⟩; clear hb1; go_wp2_with fail
 refine (Parse_calls a w1 hla).mono ?_; rintro e w2 ⟨A1, c1, rfl, hn1, hb2⟩; obtain ⟨n, hn⟩ : ∃ n, n = prZ (spl a).1 (spl a).2 := ⟨_, rfl⟩; obtain ⟨k, hk⟩ : ∃ n, n = prE (spl a).1 (spl a).2 := ⟨_, rfl⟩; rw [← hn, ← hk]; rw [← hn] at hn1; have HN := Hd.mk hn; have HK := Hd.mk hk; have HN1 := Hd.mk hn1; replace HB := Hd.mk (bel_then HB.out hb2); clear hn hk hn1 hb2; obtain ⟨bn, hbn⟩ : ∃ bn, bn = decide (n < 0) := ⟨_, rfl⟩; rw [← hbn]; have HBN := Hd.mk hbn; clear hbn; go_upto_region 3 with (fail)
 obtain ⟨W3, hW3⟩ : ∃ W : World, W = w2.alloc (.cells #[.bool bn, .slice A1 (ln n.natAbs) c1] 24) := ⟨_, rfl⟩; rw [← hW3]; obtain ⟨hB3, hBW3⟩ := boxes1 hW3; have HX := Hd.mk hB3; have hsz3 : w.heap.size < w2.heap.size := Nat.lt_of_lt_of_le HQ.out.lt HB.out.size; replace HN1 := Hd.mk (HN1.out.to hBW3); replace HB := Hd.mk (bel_then HB.out hBW3); clear hB3 hBW3 hW3; have g0 := (HQ.out.to HB.out).cell 0; have g1 := (HQ.out.to HB.out).cell 1; have g2 := (HQ.out.to HB.out).cell 2; have g3 := (HQ.out.to HB.out).cell 3; have f0 := (HQ.out.to HB.out).frozen 0; have f1 := (HQ.out.to HB.out).frozen 1; have f2 := (HQ.out.to HB.out).frozen 2; have f3 := (HQ.out.to HB.out).frozen 3; by_cases hk0 : k = 0
 ·have hl1 := (parse_print (l := a) (by rw [← HK.out]; exact hk0)).2; rw [← HN.out] at hl1; subst hk0; have x0 := HX.out.c0; have x1 := HX.out.c1; have HFI : Hd (∀ W, Calls Tryz.prog 20 #[.int .i64 1] W (RetZ 1 W)) := ⟨fun W => FromInt_calls 1 W (by decide) (by decide)⟩; go_wp2_with fail
  refine wp_region_vs 4 [24, 25, 26, 9] [2] [3] 26 [.bool false, .slice none 0 0, .bool false, .slice none 0 0] [isL [zC n], isZ 1, isL [zC n, zC 1], SP.any] (by kernel_rfl) (by kernel_rfl) (by kernel_rfl) (by rfl) alloc_R (fun d v c a w h => by cases d <;> exact h) ?_ ?_
  ·intro qi qh qA aa wx hb hs hd
   match qi, qh, qA with
   | 0, _, _ => exact op_load rfl rfl (hs 7 rfl) (load_api (HX.out.to hb).c0 (HX.out.to hb).c1) (isL_one.2 ⟨_, _, rfl, A1, c1, by rw [HBN.out], rfl, HN1.out.to hb⟩) | 1, _, _ => exact op_call1 rfl rfl Tryz.call20 ((HFI.out _).mono fun e w' h => h.got) | 2, _, _ => exact op_bdR rfl (hd 0 rfl) (isL_isZ.2 (hd 1 rfl)) | 3, _, h => cases h | qi + 4, h, _ => omega
  intro vs W4 hb hv hal hne; obtain ⟨g9, e9, l9, b9⟩ : ∃ g, vs 9 = .pointer (some ⟨g, 0, none⟩) ∧ _ := hal 3 rfl; have t26 : (isL [zC n, zC 1]).p (vs 26) W4 := hv 2 (by decide) rfl; obtain ⟨_, _, _, _, e26, ⟨A3, c3, rfl, rfl, hn3⟩, A2, c2, rfl, rfl, hn2⟩ := isL_two.1 t26; simp only [PA, e9, e26]; have z0 := b9.cell 0; have z1 := b9.cell 1; have z2 := b9.cell 2; have z3 := b9.cell 3; have y0 := b9.frozen 0; have y1 := b9.frozen 1; have y2 := b9.frozen 2; have y3 := b9.frozen 3; have HK9 := Hd.mk b9; have HL9 := Hd.mk l9; rw [← HBN.out]; clear t26 hv hal hne e9 e26 x0 x1 b9 l9; go_upto_region 6 with (fail)
  have HG9 := Hd.mk (Nat.le_trans HB.out.size HL9.out)
  have HB5 : Hd (Below W0.heap.size W0 ((((W4.setCell ⟨g9, 0, none⟩ (.bool bn)).setCell ⟨g9, 1, none⟩ (.slice A3 (ln n.natAbs) c3)).setCell ⟨g9, 2, none⟩ (.bool false)).setCell ⟨g9, 3, none⟩ (.slice A2 (ln 1) c2))) :=
   ⟨by have hg := Nat.le_trans HB.out.size HL9.out; exact below_set (below_set (below_set (below_set (bel_then HB.out hb) hg _) hg _) hg _) hg _⟩
  have HK5 := Hd.mk (set_four HK9.out (.bool bn) (.slice A3 (ln n.natAbs) c3) (.bool false) (.slice A2 (ln 1) c2)); have HN5 := Hd.mk (NN.set4 hn3 HK9.out (.bool bn) (.slice A3 (ln n.natAbs) c3) (.bool false) (.slice A2 (ln 1) c2)); have HD5 := Hd.mk (NN.set4 hn2 HK9.out (.bool bn) (.slice A3 (ln n.natAbs) c3) (.bool false) (.slice A2 (ln 1) c2)); obtain ⟨W5, hW5⟩ : ∃ W : World, W = ((((W4.setCell ⟨g9, 0, none⟩ (.bool bn)).setCell ⟨g9, 1, none⟩ (.slice A3 (ln n.natAbs) c3)).setCell ⟨g9, 2, none⟩ (.bool false)).setCell ⟨g9, 3, none⟩ (.slice A2 (ln 1) c2)) := ⟨_, rfl⟩; rw [← hW5] at HB5 HK5 HN5 HD5 ⊢; clear hW5 hb hn2 hn3 HK9 z0 z1 z2 z3 y0 y1 y2 y3 HB HX HN1; cases f
  ·have hD : rpD l = 1 ∧ rpED l = 0 := by
    unfold rpD rpED; rw [show rpB l = [49] by unfold rpB; rw [← HF.out]; rfl]; exact one_str
   have hok : rpOk l = (decide (0 < (1 : Int)) && decide (Nat.gcd n.natAbs (Int.natAbs 1) = 1)) := by
    unfold rpOk; rw [hD.1, hD.2, show rpEN l = 0 by unfold rpEN; rw [← HA.out]; exact HK.out.symm, show rpN l = n by unfold rpN; rw [← HA.out]; exact HN.out.symm, ← HF.out]; simp
   have HDL := Hd.mk hD.1; have HOK := Hd.mk hok; clear hD hok; have HNL : Hd (rpN l = n) := ⟨by unfold rpN; rw [← HA.out]; exact HN.out.symm⟩; obtain ⟨d, hd⟩ : ∃ d : Int, d = 1 := ⟨_, rfl⟩; obtain ⟨bd, hbd⟩ : ∃ bd, bd = decide (d < 0) := ⟨_, rfl⟩; have HBD := Hd.mk hbd; have hbf : bd = false := by rw [hbd, hd]; rfl
   have hld : ln d.natAbs ≤ 256 := by rw [hd]; exact Nat.le_trans (ln_word (by decide)) (by decide)
   have HKR : Hd (Blk W5 g9 26 [.bool bn, .slice A3 (ln n.natAbs) c3, .bool bd, .slice A2 (ln d.natAbs) c2]) := ⟨by rw [hbf, hd]; exact HK5.out⟩; have HDR : Hd (NN W5 A2 c2 d.natAbs) := ⟨by rw [hd]; exact HD5.out⟩; rw [← hd] at HOK HDL; clear hd hbd hbf HK5 HD5; have z0 := HKR.out.cell 0; have z1 := HKR.out.cell 1; have z2 := HKR.out.cell 2; have z3 := HKR.out.cell 3; go_wp2_with fail
   have hV := validRats_got [qN n A3 c3 d A2 c2] (by simp) _ _ (rats_one (blk_new (W := W5) rfl (qN n A3 c3 d A2 c2).cs 26) ⟨rawN_at (HN5.out.to (below_alloc (Below.refl _ _) _)), rawN_at (HDR.out.to (below_alloc (Below.refl _ _) _))⟩); rw [all_rq, qN_ok hl1 hld, ← HOK.out, qN_cs, ← HBN.out, ← HBD.out] at hV; have HV := Hd.mk hV; clear hV z0 z1 z2 z3; refine HV.out.mono ?_; rintro e w6 ⟨_, rfl, hb6, rfl⟩; replace hb6 : Below W5.heap.size W5 w6 := bel_then (below_alloc (Below.refl _ _) _) hb6; have HB6 := Hd.mk (bel_then HB5.out hb6); have HN6 := Hd.mk (HN5.out.to hb6); have HD6 := Hd.mk (HDR.out.to hb6); have HK6 := Hd.mk (HKR.out.to hb6); clear hb6 HV; have z0 := HK6.out.cell 0; have z1 := HK6.out.cell 1; have z2 := HK6.out.cell 2; have z3 := HK6.out.cell 3; have g0 := (HQ.out.to HB6.out).cell 0; have g1 := (HQ.out.to HB6.out).cell 1; have g2 := (HQ.out.to HB6.out).cell 2; have g3 := (HQ.out.to HB6.out).cell 3; have f0 := (HQ.out.to HB6.out).frozen 0; have f1 := (HQ.out.to HB6.out).frozen 1; have f2 := (HQ.out.to HB6.out).frozen 2; have f3 := (HQ.out.to HB6.out).frozen 3; rcases ho : rpOk l with _ | _
   ·have HO := Hd.mk ho; clear ho; go_wp2_with fail
    have K4 := set_four (HQ.out.to HB6.out) (.bool false) (.slice none 0 0) (.bool false) (.slice none 0 0); have k0 := K4.cell 0; have k1 := K4.cell 1; have k2 := K4.cell 2; have k3 := K4.cell 3; refine bodyPost_ret (v := .tuple #[.agg #[.bool false, .slice none 0 0, .bool false, .slice none 0 0], .int .i64 6]) (by simp [results, Tryz.results5, go_sem, k0, k1, k2, k3]) rfl ?_; exact retQE_err (below_set (below_set (below_set (below_set (bel_then HW.out HB6.out) (Nat.le_refl _) _) (Nat.le_refl _) _) (Nat.le_refl _) _) (Nat.le_refl _) _) HO.out
   have HO := Hd.mk ho; clear ho; go_wp2_with fail
   have K4 := set_four (HQ.out.to HB6.out) (.bool bn) (.slice A3 (ln n.natAbs) c3) (.bool bd) (.slice A2 (ln d.natAbs) c2); have k0 := K4.cell 0; have k1 := K4.cell 1; have k2 := K4.cell 2; have k3 := K4.cell 3; refine bodyPost_ret (v := .tuple #[.agg #[.bool bn, .slice A3 (ln n.natAbs) c3, .bool bd, .slice A2 (ln d.natAbs) c2], .int .i64 0]) (by simp [results, Tryz.results5, go_sem, k0, k1, k2, k3]) rfl ?_; have e1 : rqN l = n := by unfold rqN; rw [if_pos HO.out]; exact HNL.out
   have e2 : rqD l = d := by unfold rqD; rw [if_pos HO.out]; exact HDL.out
   have e3 : rqE l = 0 := by unfold rqE; rw [if_pos HO.out]
   rw [e1, e2, e3]; exact ⟨A3, c3, A2, c2, by rw [HBN.out, HBD.out], NN.set4 HN6.out (HQ.out.to HB6.out) _ _ _ _, NN.set4 HD6.out (HQ.out.to HB6.out) _ _ _ _, below_set (below_set (below_set (below_set (bel_then HW.out HB6.out) (Nat.le_refl _) _) (Nat.le_refl _) _) (Nat.le_refl _) _) (Nat.le_refl _) _⟩
  have hrb : rpB l = b := by unfold rpB; rw [← HF.out, if_pos rfl]; exact HBB.out.symm
  go_wp2_with fail
  refine (Parse_calls b W5 hlb).mono ?_; rintro e w7 ⟨A2, c2, rfl, hn7, hb7⟩; obtain ⟨d, hd⟩ : ∃ d, d = prZ (spl b).1 (spl b).2 := ⟨_, rfl⟩; obtain ⟨k2, hk2⟩ : ∃ d, d = prE (spl b).1 (spl b).2 := ⟨_, rfl⟩; rw [← hd, ← hk2]; rw [← hd] at hn7; have HDL : Hd (rpD l = d) := ⟨by unfold rpD; rw [hrb]; exact hd.symm⟩; have HEL : Hd (rpED l = k2) := ⟨by unfold rpED; rw [hrb]; exact hk2.symm⟩; have hdl0 : k2 = 0 → ln d.natAbs ≤ 256 := fun h => by rw [hd]; exact (parse_print (l := b) (by rw [← hk2]; exact h)).2
  have hk26 : k2 ≠ 0 → k2 = 6 := fun h => by rw [hk2]; exact (parse_no (l := b) (by rw [← hk2]; exact h)).2
  obtain ⟨bd, hbd⟩ : ∃ bd, bd = decide (d < 0) := ⟨_, rfl⟩; rw [← hbd]; have HBD := Hd.mk hbd; have HB7 := Hd.mk (bel_then HB5.out hb7); have HN7 := Hd.mk (HN5.out.to hb7); have HK7 := Hd.mk (HK5.out.to hb7); clear hd hk2 hbd hb7 HB5 HN5 HK5 HD5 hrb; have z0 := HK7.out.cell 0; have z1 := HK7.out.cell 1; have z2 := HK7.out.cell 2; have z3 := HK7.out.cell 3; have y2 := HK7.out.frozen 2; have y3 := HK7.out.frozen 3; have g0 := (HQ.out.to HB7.out).cell 0; have g1 := (HQ.out.to HB7.out).cell 1; have g2 := (HQ.out.to HB7.out).cell 2; have g3 := (HQ.out.to HB7.out).cell 3; have f0 := (HQ.out.to HB7.out).frozen 0; have f1 := (HQ.out.to HB7.out).frozen 1; have f2 := (HQ.out.to HB7.out).frozen 2; have f3 := (HQ.out.to HB7.out).frozen 3; go_upto_region 8 with (fail)
  have HB8 : Hd (Below W0.heap.size W0 ((w7.setCell ⟨g9, 2, none⟩ (.bool bd)).setCell ⟨g9, 3, none⟩ (.slice A2 (ln d.natAbs) c2))) := ⟨below_set (below_set HB7.out HG9.out _) HG9.out _⟩; have HKR := Hd.mk ((HK7.out.set_ 2 (.bool bd)).set_ 3 (.slice A2 (ln d.natAbs) c2)); have e3 := (HK7.out.set_ 2 (.bool bd)).cell 3; have HN8 := Hd.mk ((HN7.out.set_ z2 (by intro t; simp) (.bool bd)).set_ e3 (by intro t; simp) (.slice A2 (ln d.natAbs) c2)); have HDR := Hd.mk ((hn7.set_ z2 (by intro t; simp) (.bool bd)).set_ e3 (by intro t; simp) (.slice A2 (ln d.natAbs) c2)); obtain ⟨W8, hW8⟩ : ∃ W : World, W = ((w7.setCell ⟨g9, 2, none⟩ (.bool bd)).setCell ⟨g9, 3, none⟩ (.slice A2 (ln d.natAbs) c2)) := ⟨_, rfl⟩; rw [← hW8] at HB8 HKR HN8 HDR ⊢; clear hW8 hn7 e3 z0 z1 z2 z3 y2 y3 g0 g1 g2 g3 f0 f1 f2 f3 HB7 HN7 HK7; have g0 := (HQ.out.to HB8.out).cell 0; have g1 := (HQ.out.to HB8.out).cell 1; have g2 := (HQ.out.to HB8.out).cell 2; have g3 := (HQ.out.to HB8.out).cell 3; have f0 := (HQ.out.to HB8.out).frozen 0; have f1 := (HQ.out.to HB8.out).frozen 1; have f2 := (HQ.out.to HB8.out).frozen 2; have f3 := (HQ.out.to HB8.out).frozen 3; have z0 := HKR.out.cell 0; have z1 := HKR.out.cell 1; have z2 := HKR.out.cell 2; have z3 := HKR.out.cell 3; by_cases hk : k2 = 0
  ·have hld := hdl0 hk; subst hk; clear hdl0 hk26; by_cases hb1 : b = [49]
   ·have hno : rpOk l = false := by
     unfold rpOk; rw [← HF.out, ← HBB.out, decide_eq_true hb1]; simp
    have hbb : (b == [49]) = true := by rw [hb1]; rfl
    have HNO := Hd.mk hno; have HB1 := Hd.mk hb1; clear hno hb1; go_wp2_with fail
    have K4 := set_four (HQ.out.to HB8.out) (.bool false) (.slice none 0 0) (.bool false) (.slice none 0 0); have k0 := K4.cell 0; have k1 := K4.cell 1; have k2 := K4.cell 2; have k3 := K4.cell 3; refine bodyPost_ret (v := .tuple #[.agg #[.bool false, .slice none 0 0, .bool false, .slice none 0 0], .int .i64 6]) (by simp [results, Tryz.results5, go_sem, k0, k1, k2, k3]) rfl ?_; exact retQE_err (below_set (below_set (below_set (below_set (bel_then HW.out HB8.out) (Nat.le_refl _) _) (Nat.le_refl _) _) (Nat.le_refl _) _) (Nat.le_refl _) _) HNO.out
   have hok : rpOk l = (decide (0 < d) && decide (Nat.gcd n.natAbs d.natAbs = 1)) := by
    unfold rpOk; rw [HDL.out, HEL.out, show rpEN l = 0 by unfold rpEN; rw [← HA.out]; exact HK.out.symm, show rpN l = n by unfold rpN; rw [← HA.out]; exact HN.out.symm, ← HF.out, ← HBB.out, decide_eq_false hb1]; simp
   have hbb : (b == [49]) = false := beq_eq_false_iff_ne.2 hb1; have HOK := Hd.mk hok; have HNL : Hd (rpN l = n) := ⟨by unfold rpN; rw [← HA.out]; exact HN.out.symm⟩; have HB1 := Hd.mk hb1; clear hok hb1; go_wp2_with fail
   have hV := validRats_got [qN n A3 c3 d A2 c2] (by simp) _ _ (rats_one (blk_new (W := W8) rfl (qN n A3 c3 d A2 c2).cs 26) ⟨rawN_at (HN8.out.to (below_alloc (Below.refl _ _) _)), rawN_at (HDR.out.to (below_alloc (Below.refl _ _) _))⟩); rw [all_rq, qN_ok hl1 hld, ← HOK.out, qN_cs, ← HBN.out, ← HBD.out] at hV; have HV := Hd.mk hV; clear hV z0 z1 z2 z3; refine HV.out.mono ?_; rintro e w6 ⟨_, rfl, hb6, rfl⟩; replace hb6 : Below W8.heap.size W8 w6 := bel_then (below_alloc (Below.refl _ _) _) hb6; have HB6 := Hd.mk (bel_then HB8.out hb6); have HN6 := Hd.mk (HN8.out.to hb6); have HD6 := Hd.mk (HDR.out.to hb6); have HK6 := Hd.mk (HKR.out.to hb6); clear hb6 HV; have z0 := HK6.out.cell 0; have z1 := HK6.out.cell 1; have z2 := HK6.out.cell 2; have z3 := HK6.out.cell 3; have g0 := (HQ.out.to HB6.out).cell 0; have g1 := (HQ.out.to HB6.out).cell 1; have g2 := (HQ.out.to HB6.out).cell 2; have g3 := (HQ.out.to HB6.out).cell 3; have f0 := (HQ.out.to HB6.out).frozen 0; have f1 := (HQ.out.to HB6.out).frozen 1; have f2 := (HQ.out.to HB6.out).frozen 2; have f3 := (HQ.out.to HB6.out).frozen 3; rcases ho : rpOk l with _ | _
   ·have HO := Hd.mk ho; clear ho; go_wp2_with fail
    have K4 := set_four (HQ.out.to HB6.out) (.bool false) (.slice none 0 0) (.bool false) (.slice none 0 0); have k0 := K4.cell 0; have k1 := K4.cell 1; have k2 := K4.cell 2; have k3 := K4.cell 3; refine bodyPost_ret (v := .tuple #[.agg #[.bool false, .slice none 0 0, .bool false, .slice none 0 0], .int .i64 6]) (by simp [results, Tryz.results5, go_sem, k0, k1, k2, k3]) rfl ?_; exact retQE_err (below_set (below_set (below_set (below_set (bel_then HW.out HB6.out) (Nat.le_refl _) _) (Nat.le_refl _) _) (Nat.le_refl _) _) (Nat.le_refl _) _) HO.out
   have HO := Hd.mk ho; clear ho; go_wp2_with fail
   have K4 := set_four (HQ.out.to HB6.out) (.bool bn) (.slice A3 (ln n.natAbs) c3) (.bool bd) (.slice A2 (ln d.natAbs) c2); have k0 := K4.cell 0; have k1 := K4.cell 1; have k2 := K4.cell 2; have k3 := K4.cell 3; refine bodyPost_ret (v := .tuple #[.agg #[.bool bn, .slice A3 (ln n.natAbs) c3, .bool bd, .slice A2 (ln d.natAbs) c2], .int .i64 0]) (by simp [results, Tryz.results5, go_sem, k0, k1, k2, k3]) rfl ?_; have e1 : rqN l = n := by unfold rqN; rw [if_pos HO.out]; exact HNL.out
   have e2 : rqD l = d := by unfold rqD; rw [if_pos HO.out]; exact HDL.out
   have e3 : rqE l = 0 := by unfold rqE; rw [if_pos HO.out]
   rw [e1, e2, e3]; exact ⟨A3, c3, A2, c2, by rw [HBN.out, HBD.out], NN.set4 HN6.out (HQ.out.to HB6.out) _ _ _ _, NN.set4 HD6.out (HQ.out.to HB6.out) _ _ _ _, below_set (below_set (below_set (below_set (bel_then HW.out HB6.out) (Nat.le_refl _) _) (Nat.le_refl _) _) (Nat.le_refl _) _) (Nat.le_refl _) _⟩
  have hno : rpOk l = false := by
   unfold rpOk; rw [HEL.out, decide_eq_false hk]; simp
  rw [hk26 hk]; have HNO := Hd.mk hno; clear hno hk hk26 hdl0; go_wp2_with fail
  have K4 := set_four (HQ.out.to HB8.out) (.bool false) (.slice none 0 0) (.bool false) (.slice none 0 0); have k0 := K4.cell 0; have k1 := K4.cell 1; have k2 := K4.cell 2; have k3 := K4.cell 3; refine bodyPost_ret (v := .tuple #[.agg #[.bool false, .slice none 0 0, .bool false, .slice none 0 0], .int .i64 6]) (by simp [results, Tryz.results5, go_sem, k0, k1, k2, k3]) rfl ?_; exact retQE_err (below_set (below_set (below_set (below_set (bel_then HW.out HB8.out) (Nat.le_refl _) _) (Nat.le_refl _) _) (Nat.le_refl _) _) (Nat.le_refl _) _) HNO.out
 have hno : rpOk l = false := by
  unfold rpOk rpEN; rw [← HA.out, ← HK.out, decide_eq_false hk0]; rfl
 have HNO := Hd.mk hno
 have hk6 : k = 6 := by
  have := (parse_no (l := a) (by rw [← HK.out]; exact hk0)).2; rw [HK.out]; exact this
 rw [hk6]; clear hk6 hno hk0; go_wp2_with fail
 have K4 := set_four (HQ.out.to HB.out) (.bool false) (.slice none 0 0) (.bool false) (.slice none 0 0); have k0 := K4.cell 0; have k1 := K4.cell 1; have k2 := K4.cell 2; have k3 := K4.cell 3; refine bodyPost_ret (v := .tuple #[.agg #[.bool false, .slice none 0 0, .bool false, .slice none 0 0], .int .i64 6]) (by simp [results, Tryz.results5, go_sem, k0, k1, k2, k3]) rfl ?_; exact retQE_err (below_set (below_set (below_set (below_set (bel_then HW.out HB.out) (Nat.le_refl _) _) (Nat.le_refl _) _) (Nat.le_refl _) _) (Nat.le_refl _) _) HNO.out
end Go.Proofs.YtdfhhceboacdcaaGreatDoor
