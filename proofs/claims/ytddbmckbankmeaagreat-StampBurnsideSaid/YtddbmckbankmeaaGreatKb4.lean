/- Part 4 of the texts behind this claim. -/
import Derived.Test.YtddbmckbankmeaaGreatKb3
set_option linter.unusedVariables false
set_option linter.unusedSimpArgs false
namespace Go.Proofs.YtddbmckbankmeaaGreat
open Go.RowKit
theorem wrap_neg {i : Int} (h : -1000 ≤ i ∧ i ≤ 1000) : IntKind.i64.wrap (-i) = -i := wrap_fit (by unfold Fit; omega)
set_option maxRecDepth 100000 in
theorem turned_nat (dx dy : Int) (T : Nat) (f : Bool) (x y : Int) (ht : T < 4) (hx : -1000 ≤ x ∧ x ≤ 1000) (hy : -1000 ≤ y ∧ y ≤ 1000) (w : World) :
  Calls Tryz.prog 84 #[.agg #[.int .i64 dx, .int .i64 dy, .int .i64 (T : Int), .bool f], .int .i64 x, .int .i64 y] w (Got w (isP (isV (.int .i64 (trn f x y T).1)) (isV (.int .i64 (trn f x y T).2))).p) := by
 rcases f with _ | _
 ·go_enter Tryz.func84, Tryz.ntmps84
  go_wp2
  go_loopw [1, 2, 14] (fun s1 s2 s14 wr => ∃ k : Nat, k ≤ T ∧ s14 = .int .i64 k ∧ s1 = .int .i64 (trn false x y k).1 ∧ s2 = .int .i64 (trn false x y k).2 ∧ Below w.heap.size w wr) (fun _ _ s14 _ => T - (intOf s14).toNat)
  case atStart => exact ⟨0, Nat.zero_le _, rfl, rfl, rfl, by repeat (first | exact HB.out | exact Below.refl _ _ | refine below_alloc ?_ _ | refine below_drewN ?_ _ | refine below_drew ?_ | refine below_set ?_ (by first | exact Nat.le_refl _ | omega | (simp; done) | (simp; omega)) _)⟩
  case round =>
   obtain ⟨k, hk, rfl, rfl, rfl, hbel⟩ := hrel; have HB := Hd.mk hbel; have HTB := Hd.mk (trn_bound false hx hy k); have HTS := Hd.mk (show trn false x y (k + 1) = rot (trn false x y k) from rfl); obtain ⟨p, hp⟩ : ∃ p, p = trn false x y k := ⟨_, rfl⟩; rw [← hp] at HTB HTS ⊢; have HP := Hd.mk hp; clear hbel hp; by_cases hlt : k < T
   ·have hw := wrap_neg HTB.out.2; go_wp2
    go_roundw
    case rel => exact ⟨k + 1, by omega, by go_num, by rw [HTS.out]; rfl, by rw [HTS.out]; rfl, HB.out⟩
    case measure => simp [intOf]; omega
   have hkT : k = T := by omega
   have HKT := Hd.mk hkT; clear hkT; go_wp2
   refine bodyPost_ret (v := .tuple #[.int .i64 p.1, .int .i64 p.2]) (by simp [results, Tryz.results84, go_sem]) rfl ?_; exact ⟨_, rfl, HB.out, _, _, rfl, by show Value.int _ _ = _; rw [HP.out, HKT.out], by show Value.int _ _ = _; rw [HP.out, HKT.out]⟩
 have hw := wrap_neg hx; go_enter Tryz.func84, Tryz.ntmps84
 go_wp2
 clear hw; go_loopw [1, 2, 14] (fun s1 s2 s14 wr => ∃ k : Nat, k ≤ T ∧ s14 = .int .i64 k ∧ s1 = .int .i64 (trn true x y k).1 ∧ s2 = .int .i64 (trn true x y k).2 ∧ Below w.heap.size w wr) (fun _ _ s14 _ => T - (intOf s14).toNat)
 case atStart => exact ⟨0, Nat.zero_le _, rfl, rfl, rfl, by repeat (first | exact HB.out | exact Below.refl _ _ | refine below_alloc ?_ _ | refine below_drewN ?_ _ | refine below_drew ?_ | refine below_set ?_ (by first | exact Nat.le_refl _ | omega | (simp; done) | (simp; omega)) _)⟩
 case round =>
  obtain ⟨k, hk, rfl, rfl, rfl, hbel⟩ := hrel; have HB := Hd.mk hbel; have HTB := Hd.mk (trn_bound true hx hy k); have HTS := Hd.mk (show trn true x y (k + 1) = rot (trn true x y k) from rfl); obtain ⟨p, hp⟩ : ∃ p, p = trn true x y k := ⟨_, rfl⟩; rw [← hp] at HTB HTS ⊢; have HP := Hd.mk hp; clear hbel hp; by_cases hlt : k < T
  ·have hw := wrap_neg HTB.out.2; go_wp2
   go_roundw
   case rel => exact ⟨k + 1, by omega, by go_num, by rw [HTS.out]; rfl, by rw [HTS.out]; rfl, HB.out⟩
   case measure => simp [intOf]; omega
  have hkT : k = T := by omega
  have HKT := Hd.mk hkT; clear hkT; go_wp2
  refine bodyPost_ret (v := .tuple #[.int .i64 p.1, .int .i64 p.2]) (by simp [results, Tryz.results84, go_sem]) rfl ?_; exact ⟨_, rfl, HB.out, _, _, rfl, by show Value.int _ _ = _; rw [HP.out, HKT.out], by show Value.int _ _ = _; rw [HP.out, HKT.out]⟩
theorem turned_got (dx dy t : Int) (f : Bool) (x y : Int) (ht : 0 ≤ t ∧ t < 4) (hx : -1000 ≤ x ∧ x ≤ 1000) (hy : -1000 ≤ y ∧ y ≤ 1000) (w : World) :
  Calls Tryz.prog 84 #[.agg #[.int .i64 dx, .int .i64 dy, .int .i64 t, .bool f], .int .i64 x, .int .i64 y] w (Got w (isP (isV (.int .i64 (trn f x y t.toNat).1)) (isV (.int .i64 (trn f x y t.toNat).2))).p) := by
 obtain ⟨T, rfl⟩ : ∃ T : Nat, t = (T : Int) := ⟨t.toNat, by omega⟩; rw [Int.toNat_natCast]; exact turned_nat dx dy T f x y (by omega) hx hy w
def linv (l : Lin) : List Value := [.int .i64 l.a, .int .i64 l.b, .int .i64 l.c, .int .i64 l.d]
theorem lin_mul {a x : Int} (h : -1 ≤ a ∧ a ≤ 1) (hx : -1000 ≤ x ∧ x ≤ 1000) : -1000 ≤ a * x ∧ a * x ≤ 1000 := by
 rcases (show a = -1 ∨ a = 0 ∨ a = 1 by omega) with rfl | rfl | rfl <;> omega
set_option maxRecDepth 100000 in
set_option maxHeartbeats 1000000 in
theorem lto_got (l : Lin) (x y : Int) (hl : (-1 ≤ l.a ∧ l.a ≤ 1) ∧ (-1 ≤ l.b ∧ l.b ≤ 1) ∧ (-1 ≤ l.c ∧ l.c ≤ 1) ∧ -1 ≤ l.d ∧ l.d ≤ 1) (hx : -1000 ≤ x ∧ x ≤ 1000) (hy : -1000 ≤ y ∧ y ≤ 1000) (w : World) :
  Calls Tryz.prog 73 #[.agg #[.int .i64 l.a, .int .i64 l.b, .int .i64 l.c, .int .i64 l.d], .int .i64 x, .int .i64 y] w (Got w (isP (isV (.int .i64 (l.a * x + l.b * y))) (isV (.int .i64 (l.c * x + l.d * y)))).p) := by
 have b0 : -1000 ≤ l.a * x ∧ l.a * x ≤ 1000 := lin_mul hl.1 hx; have b1 : -1000 ≤ l.b * y ∧ l.b * y ≤ 1000 := lin_mul hl.2.1 hy; have b2 : -1000 ≤ l.c * x ∧ l.c * x ≤ 1000 := lin_mul hl.2.2.1 hx; have b3 : -1000 ≤ l.d * y ∧ l.d * y ≤ 1000 := lin_mul hl.2.2.2 hy; go_enter Tryz.func73, Tryz.ntmps73
 go_upto_region 1 with fail
 obtain ⟨W0, hW0⟩ : ∃ W : World, W = w.alloc (.cells #[.int .i64 l.a, .int .i64 l.b, .int .i64 l.c, .int .i64 l.d] 119) := ⟨_, rfl⟩; rw [← hW0]; obtain ⟨he, hb⟩ := env_one hW0; have HE := Hd.mk he; have HB := Hd.mk hb; clear he hb hW0; refine wp_region_vs 20 [8, 9, 10, 11, 12, 13, 14, 15, 16, 17, 18, 19, 20, 21, 22, 23, 24, 25, 6, 7] [0, 2, 3, 4, 6, 7, 8, 9, 11, 12, 13, 15, 16, 17, 18, 19] [] 63 [.int .i64 0, .int .i64 0] [isV (.pointer (some ⟨w.heap.size, 0, none⟩)), qI l.a, qI x, qI (l.a * x), isV (.pointer (some ⟨w.heap.size, 1, none⟩)), qI l.b, qI y, qI (l.b * y), qI ((l.a * x) + (l.b * y)), isV (.pointer (some ⟨w.heap.size, 2, none⟩)), qI l.c, qI x, qI (l.c * x), isV (.pointer (some ⟨w.heap.size, 3, none⟩)), qI l.d, qI y, qI (l.d * y), qI ((l.c * x) + (l.d * y)), qI ((l.a * x) + (l.b * y)), qI ((l.c * x) + (l.d * y))] (by kernel_rfl) (by kernel_rfl) (by kernel_rfl) (by rfl) alloc_Z (fun d v c a w h => by cases d <;> exact h) ?_ ?_
 ·intro qi qh qA aa wx hb hs hd
  match qi, qh, qA with
  | 0, _, _ => exact ⟨_, op_faL0 rfl (hs 3 rfl), rfl⟩ | 1, _, _ => exact op_ldI rfl rfl (hd 0 rfl) ((HE.out.to hb).cell 0 0 rfl rfl) | 2, _, _ => exact op_mv rfl (hs 1 rfl) | 3, _, _ => exact ⟨_, op_mul (by unfold Fit; omega) rfl (hd 1 rfl) (hd 2 rfl), rfl⟩ | 4, _, _ => exact ⟨_, op_faL1 rfl (hs 3 rfl), rfl⟩ | 5, _, _ => exact op_ldI rfl rfl (hd 4 rfl) ((HE.out.to hb).cell 0 1 rfl rfl) | 6, _, _ => exact op_mv rfl (hs 2 rfl) | 7, _, _ => exact ⟨_, op_mul (by unfold Fit; omega) rfl (hd 5 rfl) (hd 6 rfl), rfl⟩ | 8, _, _ => exact ⟨_, op_add (by unfold Fit; omega) rfl (hd 3 rfl) (hd 7 rfl), rfl⟩ | 9, _, _ => exact ⟨_, op_faL2 rfl (hs 3 rfl), rfl⟩ | 10, _, _ => exact op_ldI rfl rfl (hd 9 rfl) ((HE.out.to hb).cell 0 2 rfl rfl) | 11, _, _ => exact op_mv rfl (hs 1 rfl) | 12, _, _ => exact ⟨_, op_mul (by unfold Fit; omega) rfl (hd 10 rfl) (hd 11 rfl), rfl⟩ | 13, _, _ => exact ⟨_, op_faL3 rfl (hs 3 rfl), rfl⟩ | 14, _, _ => exact op_ldI rfl rfl (hd 13 rfl) ((HE.out.to hb).cell 0 3 rfl rfl) | 15, _, _ => exact op_mv rfl (hs 2 rfl) | 16, _, _ => exact ⟨_, op_mul (by unfold Fit; omega) rfl (hd 14 rfl) (hd 15 rfl), rfl⟩ | 17, _, _ => exact ⟨_, op_add (by unfold Fit; omega) rfl (hd 12 rfl) (hd 16 rfl), rfl⟩ | 18, _, _ => exact op_asg rfl (hd 8 rfl) | 19, _, _ => exact op_asg rfl (hd 17 rfl) | qi + 20, h, _ => omega
 intro vs X1 hb hv hal hne; replace HB := Hd.mk (bel_then HB.out hb); replace HE := Hd.mk (HE.out.to hb); have e6 : vs 6 = .int .i64 ((l.a * x) + (l.b * y)) := hv 18 (by decide) rfl; have e7 : vs 7 = .int .i64 ((l.c * x) + (l.d * y)) := hv 19 (by decide) rfl; simp only [PA, e6, e7]; clear hv hal hne hb e6 e7; go_wp2_with fail
 refine bodyPost_ret (v := .tuple #[.int .i64 ((l.a * x) + (l.b * y)), .int .i64 ((l.c * x) + (l.d * y))]) (by simp [results, Tryz.results73, go_sem]) rfl ?_; exact ⟨_, rfl, HB.out, _, _, rfl, rfl, rfl⟩
set_option maxRecDepth 100000 in
set_option maxHeartbeats 1000000 in
theorem rturned_nat (f : Bool) (T : Nat) (hT : T < 4) (w : World) :
  Calls Tryz.prog 72 #[.bool f, .int .i64 ((T : Int))] w (Got w (isV (.agg (linv (lin f T)).toArray)).p) := by
 by_cases hf : f = true
 ·subst hf; go_enter Tryz.func72, Tryz.ntmps72
  go_upto_region 1 with fail
  obtain ⟨W0, hW0⟩ : ∃ W : World, W = w.alloc (.cells #[.int .i64 0, .int .i64 0, .int .i64 0, .int .i64 0] 119) := ⟨_, rfl⟩; rw [← hW0]; obtain ⟨he, hb⟩ := env_one hW0; have HE := Hd.mk he; have HB := Hd.mk hb; clear he hb hW0; refine wp_region_vd 2 [6, 5] [0] [1] 119 [.int .i64 0, .int .i64 0, .int .i64 0, .int .i64 0] [isV (.agg #[.int .i64 1, .int .i64 0, .int .i64 0, .int .i64 1]), SP.any] (by rfl) alloc_L ?_ ?_
  ·intro qi qh qA aa wx hb hs hd
   match qi, qh, qA with
   | 0, _, _ => exact aL ⟨_, op_buL rfl rfl rfl rfl rfl, rfl⟩ | 1, _, h => cases h | qi + 2, h, _ => omega
  intro vs X1 hb hv hal hne; have HL0 := Hd.mk (HE.out.lt); have HBW := HB; replace HB := Hd.mk (bel_then HB.out hb); replace HE := Hd.mk (HE.out.to hb); have e6 : vs 6 = .agg #[.int .i64 1, .int .i64 0, .int .i64 0, .int .i64 1] := hv 0 (by decide) rfl; obtain ⟨g5, e5, l5, b5⟩ : ∃ g, vs 5 = .pointer (some ⟨g, 0, none⟩) ∧ _ := hal 1 rfl; replace HE : Hd (Env X1 [⟨w.heap.size, 119, [.int .i64 0, .int .i64 0, .int .i64 0, .int .i64 0]⟩, ⟨g5, 119, [.int .i64 0, .int .i64 0, .int .i64 0, .int .i64 0]⟩]) := ⟨Env.addne (e := ⟨g5, 119, [.int .i64 0, .int .i64 0, .int .i64 0, .int .i64 0]⟩) HE.out b5 (fun e' he => Nat.ne_of_lt (Nat.lt_of_lt_of_le (HL0.out e' he) l5))⟩; have G5 : Hd (w.heap.size ≤ g5) := ⟨Nat.le_trans HBW.out.size l5⟩; simp only [PA, e6, e5]; clear hv hal hne hb HL0 HBW e6 e5 l5 b5; refine wpList_st rfl rfl rfl rfl rfl (sto_L (HE.out.get 1 rfl)) ?_; have HE' : Env (putL X1 g5 0 [.int .i64 1, .int .i64 0, .int .i64 0, .int .i64 1]) [⟨w.heap.size, 119, [.int .i64 0, .int .i64 0, .int .i64 0, .int .i64 0]⟩, ⟨g5, 119, [.int .i64 1, .int .i64 0, .int .i64 0, .int .i64 1]⟩] := HE.out.putF 1 rfl rfl; have HB' := putL_below (show w.heap.size ≤ g5 from G5.out) [.int .i64 1, .int .i64 0, .int .i64 0, .int .i64 1] _ 0 HB.out; generalize putL X1 g5 0 [.int .i64 1, .int .i64 0, .int .i64 0, .int .i64 1] = X2 at *; replace HE := Hd.mk HE'; replace HB := Hd.mk HB'; clear HE' HB'; go_upto_region 3 with fail
  refine wp_region_vd 1 [8] [0] [] 63 [.int .i64 0, .int .i64 0] [isV (.pointer (some ⟨g5, 0, none⟩))] (by rfl) alloc_Z ?_ ?_
  ·intro qi qh qA aa wx hb hs hd
   match qi, qh, qA with
   | 0, _, _ => exact aL ⟨_, op_faL0 rfl (hs 5 rfl), rfl⟩ | qi + 1, h, _ => omega
  intro vs X3 hb hv hal hne; replace HB := Hd.mk (bel_then HB.out hb); replace HE := Hd.mk (HE.out.to hb); have e8 : vs 8 = .pointer (some ⟨g5, 0, none⟩) := hv 0 (by decide) rfl; simp only [PA, e8]; clear hv hal hne hb e8; refine wpList_st rfl rfl rfl rfl rfl (sto_I (HE.out.get 1 rfl) rfl) ?_; have HE' : Env (putL X3 g5 0 [.int .i64 (-1)]) [⟨w.heap.size, 119, [.int .i64 0, .int .i64 0, .int .i64 0, .int .i64 0]⟩, ⟨g5, 119, [.int .i64 (-1), .int .i64 0, .int .i64 0, .int .i64 1]⟩] := HE.out.putO 1 rfl; have HB' := putL_below (show w.heap.size ≤ g5 from G5.out) [.int .i64 (-1)] _ 0 HB.out; generalize putL X3 g5 0 [.int .i64 (-1)] = X4 at *; replace HE := Hd.mk HE'; replace HB := Hd.mk HB'; clear HE' HB'; go_wp2_with fail
  go_loopw [10] (fun s10 wr => ∃ k : Nat, k ≤ T ∧ s10 = .int .i64 k ∧ Env wr [⟨w.heap.size, 119, [.int .i64 0, .int .i64 0, .int .i64 0, .int .i64 0]⟩, ⟨g5, 119, linv (lin true k)⟩] ∧ Below w.heap.size w wr) (fun s10 _ => T - (intOf s10).toNat)
  case atStart => exact ⟨0, Nat.zero_le _, rfl, HE.out, HB.out⟩
  case round =>
   obtain ⟨k, hk, rfl, he, hb⟩ := hrel; have htb := lin_bound true k; have HTS := Hd.mk (show lin true (k + 1) = (let l := lin true k; ⟨-l.c, -l.d, l.a, l.b⟩) from rfl); obtain ⟨l, hl⟩ : ∃ l, l = lin true k := ⟨_, rfl⟩; rw [← hl] at he htb HTS; have HL := Hd.mk hl; have HBo := HB; clear HB HE; have HB := Hd.mk hb; have HE : Hd (Env wr [⟨w.heap.size, 119, [.int .i64 0, .int .i64 0, .int .i64 0, .int .i64 0]⟩, ⟨g5, 119, [.int .i64 l.a, .int .i64 l.b, .int .i64 l.c, .int .i64 l.d]⟩]) := ⟨he⟩; clear hl he hb HBo; by_cases hlt : k < T
   ·go_upto_region 6 with fail
    refine wp_region_vd 11 [12, 13, 14, 15, 16, 17, 18, 19, 20, 21, 22] [0, 2, 3, 5, 6, 8, 10] [] 63 [.int .i64 0, .int .i64 0] [isV (.pointer (some ⟨g5, 2, none⟩)), qI l.c, qI (-l.c), isV (.pointer (some ⟨g5, 3, none⟩)), qI l.d, qI (-l.d), isV (.pointer (some ⟨g5, 0, none⟩)), qI l.a, isV (.pointer (some ⟨g5, 1, none⟩)), qI l.b, isV (.agg #[.int .i64 (-l.c), .int .i64 (-l.d), .int .i64 l.a, .int .i64 l.b])] (by rfl) alloc_Z ?_ ?_
    ·intro qi qh qA aa wx hb hs hd
     match qi, qh, qA with
     | 0, _, _ => exact aL ⟨_, op_faL2 rfl (hs 5 rfl), rfl⟩ | 1, _, _ => exact aL (op_ldI rfl rfl (hd 0 rfl) ((HE.out.to hb).cell 1 2 rfl rfl)) | 2, _, _ => exact aL ⟨_, op_neg (by unfold Fit; omega) rfl (hd 1 rfl), rfl⟩ | 3, _, _ => exact aL ⟨_, op_faL3 rfl (hs 5 rfl), rfl⟩ | 4, _, _ => exact aL (op_ldI rfl rfl (hd 3 rfl) ((HE.out.to hb).cell 1 3 rfl rfl)) | 5, _, _ => exact aL ⟨_, op_neg (by unfold Fit; omega) rfl (hd 4 rfl), rfl⟩ | 6, _, _ => exact aL ⟨_, op_faL0 rfl (hs 5 rfl), rfl⟩ | 7, _, _ => exact aL (op_ldI rfl rfl (hd 6 rfl) ((HE.out.to hb).cell 1 0 rfl rfl)) | 8, _, _ => exact aL ⟨_, op_faL1 rfl (hs 5 rfl), rfl⟩ | 9, _, _ => exact aL (op_ldI rfl rfl (hd 8 rfl) ((HE.out.to hb).cell 1 1 rfl rfl)) | 10, _, _ => exact aL ⟨_, op_buL rfl (hd 2 rfl) (hd 5 rfl) (hd 7 rfl) (hd 9 rfl), rfl⟩ | qi + 11, h, _ => omega
    intro vs X5 hb hv hal hne; replace HB := Hd.mk (bel_then HB.out hb); replace HE := Hd.mk (HE.out.to hb); have e22 : vs 22 = .agg #[.int .i64 (-l.c), .int .i64 (-l.d), .int .i64 l.a, .int .i64 l.b] := hv 10 (by decide) rfl; simp only [PA, e22]; clear hv hal hne hb e22; refine wpList_st rfl rfl rfl rfl rfl (sto_L (HE.out.get 1 rfl)) ?_; have HE' : Env (putL X5 g5 0 [.int .i64 (-l.c), .int .i64 (-l.d), .int .i64 l.a, .int .i64 l.b]) [⟨w.heap.size, 119, [.int .i64 0, .int .i64 0, .int .i64 0, .int .i64 0]⟩, ⟨g5, 119, [.int .i64 (-l.c), .int .i64 (-l.d), .int .i64 l.a, .int .i64 l.b]⟩] := HE.out.putF 1 rfl rfl; have HB' := putL_below (show w.heap.size ≤ g5 from G5.out) [.int .i64 (-l.c), .int .i64 (-l.d), .int .i64 l.a, .int .i64 l.b] _ 0 HB.out; generalize putL X5 g5 0 [.int .i64 (-l.c), .int .i64 (-l.d), .int .i64 l.a, .int .i64 l.b] = X6 at *; replace HE := Hd.mk HE'; replace HB := Hd.mk HB'; clear HE' HB'; go_wp2_with fail
    go_roundw
    case rel => exact ⟨k + 1, by omega, by go_num, by rw [HTS.out]; exact HE.out, HB.out⟩
    case measure => simp [intOf]; omega
   have HKT : Hd (k = T) := ⟨by omega⟩; go_upto_region 8 with fail
   refine wp_region_vd 1 [24] [] [] 63 [.int .i64 0, .int .i64 0] [isV (.agg #[.int .i64 l.a, .int .i64 l.b, .int .i64 l.c, .int .i64 l.d])] (by rfl) alloc_Z ?_ ?_
   ·intro qi qh qA aa wx hb hs hd
    match qi, qh, qA with
    | 0, _, _ => exact aL (op_ldL rfl rfl (hs 5 rfl) ((HE.out.to hb).get 1 rfl)) | qi + 1, h, _ => omega
   intro vs X5 hb hv hal hne; replace HB := Hd.mk (bel_then HB.out hb); replace HE := Hd.mk (HE.out.to hb); have e24 : vs 24 = .agg #[.int .i64 l.a, .int .i64 l.b, .int .i64 l.c, .int .i64 l.d] := hv 0 (by decide) rfl; simp only [PA, e24]; clear hv hal hne hb e24; refine wpList_st rfl rfl rfl rfl rfl (sto_L (HE.out.get 0 rfl)) ?_; have HE' : Env (putL X5 w.heap.size 0 [.int .i64 l.a, .int .i64 l.b, .int .i64 l.c, .int .i64 l.d]) [⟨w.heap.size, 119, [.int .i64 l.a, .int .i64 l.b, .int .i64 l.c, .int .i64 l.d]⟩, ⟨g5, 119, [.int .i64 l.a, .int .i64 l.b, .int .i64 l.c, .int .i64 l.d]⟩] := HE.out.putF 0 rfl rfl; have HB' := putL_below (show w.heap.size ≤ w.heap.size from by omega) [.int .i64 l.a, .int .i64 l.b, .int .i64 l.c, .int .i64 l.d] _ 0 HB.out; generalize putL X5 w.heap.size 0 [.int .i64 l.a, .int .i64 l.b, .int .i64 l.c, .int .i64 l.d] = X6 at *; replace HE := Hd.mk HE'; replace HB := Hd.mk HB'; clear HE' HB'; go_wp2_with fail
   have k0a := HE.out.cell 0 0 rfl rfl; have k0b := HE.out.cell 0 1 rfl rfl; have k0c := HE.out.cell 0 2 rfl rfl; have k0d := HE.out.cell 0 3 rfl rfl; refine bodyPost_ret (v := .agg #[.int .i64 l.a, .int .i64 l.b, .int .i64 l.c, .int .i64 l.d]) (by simp [results, Tryz.results72, go_sem, k0a, k0b, k0c, k0d]) rfl ?_; exact ⟨_, rfl, HB.out, by rw [← HKT.out, ← HL.out]; rfl⟩
 have hf' : f = false := by simpa using hf
 subst hf'; clear hf; go_enter Tryz.func72, Tryz.ntmps72
 go_upto_region 1 with fail
 obtain ⟨W0, hW0⟩ : ∃ W : World, W = w.alloc (.cells #[.int .i64 0, .int .i64 0, .int .i64 0, .int .i64 0] 119) := ⟨_, rfl⟩; rw [← hW0]; obtain ⟨he, hb⟩ := env_one hW0; have HE := Hd.mk he; have HB := Hd.mk hb; clear he hb hW0; refine wp_region_vd 2 [6, 5] [0] [1] 119 [.int .i64 0, .int .i64 0, .int .i64 0, .int .i64 0] [isV (.agg #[.int .i64 1, .int .i64 0, .int .i64 0, .int .i64 1]), SP.any] (by rfl) alloc_L ?_ ?_
 ·intro qi qh qA aa wx hb hs hd
  match qi, qh, qA with
  | 0, _, _ => exact aL ⟨_, op_buL rfl rfl rfl rfl rfl, rfl⟩ | 1, _, h => cases h | qi + 2, h, _ => omega
 intro vs X1 hb hv hal hne; have HL0 := Hd.mk (HE.out.lt); have HBW := HB; replace HB := Hd.mk (bel_then HB.out hb); replace HE := Hd.mk (HE.out.to hb); have e6 : vs 6 = .agg #[.int .i64 1, .int .i64 0, .int .i64 0, .int .i64 1] := hv 0 (by decide) rfl; obtain ⟨g5, e5, l5, b5⟩ : ∃ g, vs 5 = .pointer (some ⟨g, 0, none⟩) ∧ _ := hal 1 rfl; replace HE : Hd (Env X1 [⟨w.heap.size, 119, [.int .i64 0, .int .i64 0, .int .i64 0, .int .i64 0]⟩, ⟨g5, 119, [.int .i64 0, .int .i64 0, .int .i64 0, .int .i64 0]⟩]) := ⟨Env.addne (e := ⟨g5, 119, [.int .i64 0, .int .i64 0, .int .i64 0, .int .i64 0]⟩) HE.out b5 (fun e' he => Nat.ne_of_lt (Nat.lt_of_lt_of_le (HL0.out e' he) l5))⟩; have G5 : Hd (w.heap.size ≤ g5) := ⟨Nat.le_trans HBW.out.size l5⟩; simp only [PA, e6, e5]; clear hv hal hne hb HL0 HBW e6 e5 l5 b5; refine wpList_st rfl rfl rfl rfl rfl (sto_L (HE.out.get 1 rfl)) ?_; have HE' : Env (putL X1 g5 0 [.int .i64 1, .int .i64 0, .int .i64 0, .int .i64 1]) [⟨w.heap.size, 119, [.int .i64 0, .int .i64 0, .int .i64 0, .int .i64 0]⟩, ⟨g5, 119, [.int .i64 1, .int .i64 0, .int .i64 0, .int .i64 1]⟩] := HE.out.putF 1 rfl rfl; have HB' := putL_below (show w.heap.size ≤ g5 from G5.out) [.int .i64 1, .int .i64 0, .int .i64 0, .int .i64 1] _ 0 HB.out; generalize putL X1 g5 0 [.int .i64 1, .int .i64 0, .int .i64 0, .int .i64 1] = X2 at *; replace HE := Hd.mk HE'; replace HB := Hd.mk HB'; clear HE' HB'; go_wp2_with fail
 go_loopw [10] (fun s10 wr => ∃ k : Nat, k ≤ T ∧ s10 = .int .i64 k ∧ Env wr [⟨w.heap.size, 119, [.int .i64 0, .int .i64 0, .int .i64 0, .int .i64 0]⟩, ⟨g5, 119, linv (lin false k)⟩] ∧ Below w.heap.size w wr) (fun s10 _ => T - (intOf s10).toNat)
 case atStart => exact ⟨0, Nat.zero_le _, rfl, HE.out, HB.out⟩
 case round =>
  obtain ⟨k, hk, rfl, he, hb⟩ := hrel; have htb := lin_bound false k; have HTS := Hd.mk (show lin false (k + 1) = (let l := lin false k; ⟨-l.c, -l.d, l.a, l.b⟩) from rfl); obtain ⟨l, hl⟩ : ∃ l, l = lin false k := ⟨_, rfl⟩; rw [← hl] at he htb HTS; have HL := Hd.mk hl; have HBo := HB; clear HB HE; have HB := Hd.mk hb; have HE : Hd (Env wr [⟨w.heap.size, 119, [.int .i64 0, .int .i64 0, .int .i64 0, .int .i64 0]⟩, ⟨g5, 119, [.int .i64 l.a, .int .i64 l.b, .int .i64 l.c, .int .i64 l.d]⟩]) := ⟨he⟩; clear hl he hb HBo; by_cases hlt : k < T
  ·go_upto_region 6 with fail
   refine wp_region_vd 11 [12, 13, 14, 15, 16, 17, 18, 19, 20, 21, 22] [0, 2, 3, 5, 6, 8, 10] [] 63 [.int .i64 0, .int .i64 0] [isV (.pointer (some ⟨g5, 2, none⟩)), qI l.c, qI (-l.c), isV (.pointer (some ⟨g5, 3, none⟩)), qI l.d, qI (-l.d), isV (.pointer (some ⟨g5, 0, none⟩)), qI l.a, isV (.pointer (some ⟨g5, 1, none⟩)), qI l.b, isV (.agg #[.int .i64 (-l.c), .int .i64 (-l.d), .int .i64 l.a, .int .i64 l.b])] (by rfl) alloc_Z ?_ ?_
   ·intro qi qh qA aa wx hb hs hd
    match qi, qh, qA with
    | 0, _, _ => exact aL ⟨_, op_faL2 rfl (hs 5 rfl), rfl⟩ | 1, _, _ => exact aL (op_ldI rfl rfl (hd 0 rfl) ((HE.out.to hb).cell 1 2 rfl rfl)) | 2, _, _ => exact aL ⟨_, op_neg (by unfold Fit; omega) rfl (hd 1 rfl), rfl⟩ | 3, _, _ => exact aL ⟨_, op_faL3 rfl (hs 5 rfl), rfl⟩ | 4, _, _ => exact aL (op_ldI rfl rfl (hd 3 rfl) ((HE.out.to hb).cell 1 3 rfl rfl)) | 5, _, _ => exact aL ⟨_, op_neg (by unfold Fit; omega) rfl (hd 4 rfl), rfl⟩ | 6, _, _ => exact aL ⟨_, op_faL0 rfl (hs 5 rfl), rfl⟩ | 7, _, _ => exact aL (op_ldI rfl rfl (hd 6 rfl) ((HE.out.to hb).cell 1 0 rfl rfl)) | 8, _, _ => exact aL ⟨_, op_faL1 rfl (hs 5 rfl), rfl⟩ | 9, _, _ => exact aL (op_ldI rfl rfl (hd 8 rfl) ((HE.out.to hb).cell 1 1 rfl rfl)) | 10, _, _ => exact aL ⟨_, op_buL rfl (hd 2 rfl) (hd 5 rfl) (hd 7 rfl) (hd 9 rfl), rfl⟩ | qi + 11, h, _ => omega
   intro vs X3 hb hv hal hne; replace HB := Hd.mk (bel_then HB.out hb); replace HE := Hd.mk (HE.out.to hb); have e22 : vs 22 = .agg #[.int .i64 (-l.c), .int .i64 (-l.d), .int .i64 l.a, .int .i64 l.b] := hv 10 (by decide) rfl; simp only [PA, e22]; clear hv hal hne hb e22; refine wpList_st rfl rfl rfl rfl rfl (sto_L (HE.out.get 1 rfl)) ?_; have HE' : Env (putL X3 g5 0 [.int .i64 (-l.c), .int .i64 (-l.d), .int .i64 l.a, .int .i64 l.b]) [⟨w.heap.size, 119, [.int .i64 0, .int .i64 0, .int .i64 0, .int .i64 0]⟩, ⟨g5, 119, [.int .i64 (-l.c), .int .i64 (-l.d), .int .i64 l.a, .int .i64 l.b]⟩] := HE.out.putF 1 rfl rfl; have HB' := putL_below (show w.heap.size ≤ g5 from G5.out) [.int .i64 (-l.c), .int .i64 (-l.d), .int .i64 l.a, .int .i64 l.b] _ 0 HB.out; generalize putL X3 g5 0 [.int .i64 (-l.c), .int .i64 (-l.d), .int .i64 l.a, .int .i64 l.b] = X4 at *; replace HE := Hd.mk HE'; replace HB := Hd.mk HB'; clear HE' HB'; go_wp2_with fail
   go_roundw
   case rel => exact ⟨k + 1, by omega, by go_num, by rw [HTS.out]; exact HE.out, HB.out⟩
   case measure => simp [intOf]; omega
  have HKT : Hd (k = T) := ⟨by omega⟩; go_upto_region 8 with fail
  refine wp_region_vd 1 [24] [] [] 63 [.int .i64 0, .int .i64 0] [isV (.agg #[.int .i64 l.a, .int .i64 l.b, .int .i64 l.c, .int .i64 l.d])] (by rfl) alloc_Z ?_ ?_
  ·intro qi qh qA aa wx hb hs hd
   match qi, qh, qA with
   | 0, _, _ => exact aL (op_ldL rfl rfl (hs 5 rfl) ((HE.out.to hb).get 1 rfl)) | qi + 1, h, _ => omega
  intro vs X3 hb hv hal hne; replace HB := Hd.mk (bel_then HB.out hb); replace HE := Hd.mk (HE.out.to hb); have e24 : vs 24 = .agg #[.int .i64 l.a, .int .i64 l.b, .int .i64 l.c, .int .i64 l.d] := hv 0 (by decide) rfl; simp only [PA, e24]; clear hv hal hne hb e24; refine wpList_st rfl rfl rfl rfl rfl (sto_L (HE.out.get 0 rfl)) ?_; have HE' : Env (putL X3 w.heap.size 0 [.int .i64 l.a, .int .i64 l.b, .int .i64 l.c, .int .i64 l.d]) [⟨w.heap.size, 119, [.int .i64 l.a, .int .i64 l.b, .int .i64 l.c, .int .i64 l.d]⟩, ⟨g5, 119, [.int .i64 l.a, .int .i64 l.b, .int .i64 l.c, .int .i64 l.d]⟩] := HE.out.putF 0 rfl rfl; have HB' := putL_below (show w.heap.size ≤ w.heap.size from by omega) [.int .i64 l.a, .int .i64 l.b, .int .i64 l.c, .int .i64 l.d] _ 0 HB.out; generalize putL X3 w.heap.size 0 [.int .i64 l.a, .int .i64 l.b, .int .i64 l.c, .int .i64 l.d] = X4 at *; replace HE := Hd.mk HE'; replace HB := Hd.mk HB'; clear HE' HB'; go_wp2_with fail
  have k0a := HE.out.cell 0 0 rfl rfl; have k0b := HE.out.cell 0 1 rfl rfl; have k0c := HE.out.cell 0 2 rfl rfl; have k0d := HE.out.cell 0 3 rfl rfl; refine bodyPost_ret (v := .agg #[.int .i64 l.a, .int .i64 l.b, .int .i64 l.c, .int .i64 l.d]) (by simp [results, Tryz.results72, go_sem, k0a, k0b, k0c, k0d]) rfl ?_; exact ⟨_, rfl, HB.out, by rw [← HKT.out, ← HL.out]; rfl⟩
end Go.Proofs.YtddbmckbankmeaaGreat
