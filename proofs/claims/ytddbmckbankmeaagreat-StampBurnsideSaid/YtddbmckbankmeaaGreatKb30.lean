/- Part 30 of the texts behind this claim. -/
import Derived.Test.YtddbmckbankmeaaGreatKb29
set_option linter.unusedVariables false
set_option linter.unusedSimpArgs false
namespace Go.Proofs.YtddbmckbankmeaaGreat
open Go.RowKit
def lsq (W H : Int) (ms : List Mv) (tl : List Int) (j : Nat) : Bool := !((ms.take j).any fun m => decide (cmpL (apM W H m tl) tl < 0))
section
variable {W H : Int} {ms : List Mv} {tl : List Int} {j : Nat} {m : Mv}
theorem lsq_step (hm : ms[j]? = some m) : lsq W H ms tl (j + 1) = (lsq W H ms tl j && !(decide (cmpL (apM W H m tl) tl < 0))) := by
 unfold lsq; rw [List.take_add_one, hm, List.any_append]; simp
theorem lsq_all : lsq W H ms tl ms.length = repB W H ms tl := by
 unfold lsq repB; rw [List.take_length]
theorem cmp_le : decide (cmpL tl (apM W H m tl) ≤ 0) = !(decide (cmpL (apM W H m tl) tl < 0)) := by
 rw [cmpL_neg (apM W H m tl) tl]; by_cases h : cmpL (apM W H m tl) tl < 0
 ·rw [decide_eq_true h, decide_eq_false (by omega)]; rfl
 rw [decide_eq_false h, decide_eq_true (by omega)]; rfl
theorem mnP_few {K N : Nat} (h : K ^ N ≤ 4096) : mnP K N = K ^ N := by
 unfold mnP; exact Nat.min_eq_left (by omega)
end
set_option maxRecDepth 100000 in
set_option maxHeartbeats 1000000 in
theorem rList_ok (Wd Ht : Int) (K N : Nat) (A : Option Addr) (k : Nat) (ms : List Mv) (w : World) (hrm : RdM w A ms) (hln : ms.length ≤ 100000) (hs : sizeB Wd Ht = true) (hK : 1 ≤ K ∧ K ≤ 8) (hg : gB Wd Ht ms = true) (hN : (N : Int) = Wd * Ht) (hM : K ^ N ≤ 4096) :
  Calls Tryz.prog 13 #[.int .i64 Wd, .int .i64 Ht, .int .i64 (((K : Nat) : Int)), .slice A ms.length k] w (Got w (isUs w.heap.size Wd Ht (listL Wd Ht ms K N)).p) := by
 have hwh := sizeB_bounds hs; have hn64 : N ≤ 64 := by have := mul_small (a := Wd) (b := Ht) (by omega) (by omega); omega
 have hn0 : 0 < N := by have := Int.mul_pos (show 0 < Wd by omega) (show 0 < Ht by omega); omega
 have HN := Hd.mk hN; have HNN := Hd.mk hN.symm; have HGP := Hd.mk (gp_of hs hg); have HAM := Hd.mk HGP.out.al; have HNE := Hd.mk (listL_ne HGP.out hs hN (by omega) hK.2); obtain ⟨M, hMM⟩ : ∃ M, M = K ^ N := ⟨_, rfl⟩; have HMK := Hd.mk hMM.symm; have hM2 : M ≤ 4096 := by rw [hMM]; exact hM
 have HMQ : Hd (mnP K N = M) := ⟨by rw [mnP_few hM, hMM]⟩; have HRM := Hd.mk hrm; have HS := Hd.mk hs; clear hrm hs hg hN hM hMM; go_enter Tryz.func13, Tryz.ntmps13
 go_upto_region 2 with fail
 have HE : Hd (Env w []) := ⟨trivial⟩; have HB : Hd (Below w.heap.size w w) := ⟨Below.refl _ _⟩; refine wp_region_vd 5 [17, 18, 19, 20, 21] [0, 1, 2, 4] [] 63 [.int .i64 0, .int .i64 0] [qI Wd, qI Ht, qI ((K : Nat) : Int), qI ((M : Nat) : Int), qI 0] (by rfl) alloc_Z ?_ ?_
 ·intro qi qh qA aa wx hb hs hd
  match qi, qh, qA with
  | 0, _, _ => exact aL (op_mv rfl (hs 0 rfl)) | 1, _, _ => exact aL (op_mv rfl (hs 1 rfl)) | 2, _, _ => exact aL (op_mv rfl (hs 2 rfl)) | 3, _, _ => exact aL (op_call3 rfl rfl Tryz.call12 (by rw [(show aa.eval (.tmp 17) = .int .i64 Wd from (hd 0 rfl)), (show aa.eval (.tmp 18) = .int .i64 Ht from (hd 1 rfl)), (show aa.eval (.tmp 19) = .int .i64 (((K : Nat) : Int)) from (hd 2 rfl))]; exact by have h := Many_got Wd Ht K N wx HS.out hK HN.out; rw [HMQ.out] at h; exact h)) | 4, _, _ => exact aL (op_mv rfl rfl) | qi + 5, h, _ => omega
 intro vs X1 hb hv hal hne; replace HB := Hd.mk (bel_then HB.out hb); replace HE := Hd.mk (HE.out.to hb); have e20 : vs 20 = .int .i64 (((M : Nat) : Int)) := hv 3 (by decide) rfl; have e21 : vs 21 = .int .i64 0 := hv 4 (by decide) rfl; simp only [PA, e20, e21]; clear hv hal hne hb e20 e21; have HO : Hd (OwnU w.heap.size X1 (.slice none 0 0) Wd Ht []) := ⟨World.ownsRow_nil _ _ _ _⟩; go_wp2_with fail
 go_loopw [9, 21] (fun s9 s21 wr => ∃ (n : Nat) (ts : List Sl), n ≤ M ∧ s21 = .int .i64 n ∧ ts.length ≤ n ∧ ts.map Sl.xs = ((List.range n).map (dgs K N)).filter (repB Wd Ht ms) ∧ OkT wr ts ∧ OwnU w.heap.size wr s9 Wd Ht ts ∧ Below w.heap.size w wr) (fun _ s21 _ => M - (intOf s21).toNat)
 case atStart => exact ⟨0, [], Nat.zero_le _, rfl, Nat.zero_le _, rfl, (fun s hs => by cases hs), HO.out, HB.out⟩
 case round =>
  obtain ⟨n, ts, hn, rfl, htl, hmp, hok, ho, hb⟩ := hrel; clear HB HE HO; have HB := Hd.mk hb; have HO := Hd.mk ho; have HM := Hd.mk hok; have HMP := Hd.mk hmp; have HE : Hd (Env wr []) := ⟨trivial⟩; clear ho hb hok hmp; by_cases hj2 : n < M
  ·skip
   go_upto_region 4 with fail
   refine wp_region_vd 1 [23] [0] [] 63 [.int .i64 0, .int .i64 0] [qI ((n : Nat) : Int)] (by rfl) alloc_Z ?_ ?_
   ·intro qi qh qA aa wx hb hs hd
    match qi, qh, qA with
    | 0, _, _ => exact aL (op_mv rfl (hs 21 rfl)) | qi + 1, h, _ => omega
   intro vs X1 hb hv hal hne; replace HB := Hd.mk (bel_then HB.out hb); replace HE := Hd.mk (HE.out.to hb); replace HM := Hd.mk (HM.out.to hb); have HOL := Hd.mk HO.out.lt; replace HO := Hd.mk (HO.out.to hb); have e23 : vs 23 = .int .i64 (((n : Nat) : Int)) := hv 0 (by decide) rfl; simp only [PA, e23]; clear hv hal hne hb e23 HOL; have HMB : Hd (OkB X1 X1.heap.size ts) := ⟨HM.out.bound⟩; replace HM := HMB; clear HMB; have HOLW : Hd (∀ k, u9.ownBlock = some k → k < X1.heap.size) := ⟨fun k hk => (HO.out.lt k hk).2⟩; go_upto_region 5 with fail
   refine wp_region_vd 8 [24, 25, 26, 27, 28, 29, 30, 11] [0, 1, 2, 3, 4, 6] [7] 45 [.int .i64 0, .int .i64 0, .slice none 0 0] [qI Wd, qI Ht, qI Wd, qI Ht, qI ((N : Nat) : Int), isF X1.heap.size (List.replicate N (0 : Int)), isFS X1.heap.size Wd Ht (List.replicate N (0 : Int)), SP.any] (by rfl) alloc_U ?_ ?_
   ·intro qi qh qA aa wx hb hs hd
    match qi, qh, qA with
    | 0, _, _ => exact aL (op_mv rfl (hs 0 rfl)) | 1, _, _ => exact aL (op_mv rfl (hs 1 rfl)) | 2, _, _ => exact aL (op_mv rfl (hs 0 rfl)) | 3, _, _ => exact aL (op_mv rfl (hs 1 rfl)) | 4, _, _ => exact aL (pure_b (int_eq HNN.out) (⟨_, op_mul (by unfold Fit; rw [HNN.out]; omega) rfl (hd 2 rfl) (hd 3 rfl), rfl⟩)) | 5, _, _ => exact aL (op_make (by omega) rfl rfl (hd 4 rfl) (hd 4 rfl) X1.heap.size hb.size) | 6, _, _ => exact aL (op_buUF rfl (hd 0 rfl) (hd 1 rfl) (hd 5 rfl)) | 7, _, h => cases h | qi + 8, h, _ => omega
   intro vs X2 hb hv hal hne; have HL0 := Hd.mk (HE.out.lt); have HBW := HB; replace HB := Hd.mk (bel_then HB.out hb); replace HE := Hd.mk (HE.out.to hb); replace HM := Hd.mk (HM.out.to hb); have HOL := Hd.mk HO.out.lt; replace HO := Hd.mk (HO.out.to hb); have t30 : (isFS X1.heap.size Wd Ht (List.replicate N (0 : Int))).p (vs 30) X2 := hv 6 (by decide) rfl; obtain ⟨g30, k30, rest30, e30, l30, m30, n30, b30⟩ := t30; replace HE : Hd (Env X2 [⟨g30, 3, ints (List.replicate N (0 : Int)) ++ rest30⟩]) := ⟨Env.addne (e := ⟨g30, 3, ints (List.replicate N (0 : Int)) ++ rest30⟩) HE.out b30 (fun e' he => Nat.ne_of_lt (Nat.lt_of_lt_of_le (HL0.out e' he) l30))⟩; have HLE30 := Hd.mk l30; have G30 : Hd (w.heap.size ≤ g30) := ⟨Nat.le_trans HBW.out.size l30⟩; obtain ⟨g11, e11, l11, b11⟩ : ∃ g, vs 11 = .pointer (some ⟨g, 0, none⟩) ∧ _ := hal 7 rfl; replace HE : Hd (Env X2 [⟨g30, 3, ints (List.replicate N (0 : Int)) ++ rest30⟩, ⟨g11, 45, [.int .i64 0, .int .i64 0, .slice none 0 0]⟩]) := ⟨Env.addne (e := ⟨g11, 45, [.int .i64 0, .int .i64 0, .slice none 0 0]⟩) HE.out b11 (fun e' he => (List.mem_append.1 (show e' ∈ _ ++ [_] from he)).elim (fun he => Nat.ne_of_lt (Nat.lt_of_lt_of_le (HL0.out e' he) l11)) (fun he => by rw [List.mem_singleton.1 he]; exact blk_ne b30 b11 (by decide)))⟩; have HOG11 : Hd (∀ k, u9.ownBlock = some k → k < g11) := ⟨fun k hk => Nat.lt_of_lt_of_le (HOL.out k hk).2 l11⟩; have G11 : Hd (w.heap.size ≤ g11) := ⟨Nat.le_trans HBW.out.size l11⟩; simp only [PA, e30, e11]; clear hv hal hne hb HL0 HBW e30 e11 l30 b30 l11 b11 HOL; refine wpList_st rfl rfl rfl rfl rfl (sto_U (HE.out.get 1 rfl)) ?_; have HE' : Env (putL X2 g11 0 [.int .i64 Wd, .int .i64 Ht, .slice (some ⟨g30, 0, none⟩) ((List.replicate N (0 : Int)).length) k30]) [⟨g30, 3, ints (List.replicate N (0 : Int)) ++ rest30⟩, ⟨g11, 45, [.int .i64 Wd, .int .i64 Ht, .slice (some ⟨g30, 0, none⟩) ((List.replicate N (0 : Int)).length) k30]⟩] := HE.out.putF 1 rfl rfl; have HB' := putL_below (show w.heap.size ≤ g11 from G11.out) [.int .i64 Wd, .int .i64 Ht, .slice (some ⟨g30, 0, none⟩) ((List.replicate N (0 : Int)).length) k30] _ 0 HB.out; replace HM := Hd.mk (HM.out.putB (vs := [.int .i64 Wd, .int .i64 Ht, .slice (some ⟨g30, 0, none⟩) ((List.replicate N (0 : Int)).length) k30]) (o := 0) (HE.out.get 1 rfl)); replace HO := Hd.mk (HO.out.put (vs := [.int .i64 Wd, .int .i64 Ht, .slice (some ⟨g30, 0, none⟩) ((List.replicate N (0 : Int)).length) k30]) (o := 0) HOG11.out); generalize putL X2 g11 0 [.int .i64 Wd, .int .i64 Ht, .slice (some ⟨g30, 0, none⟩) ((List.replicate N (0 : Int)).length) k30] = X3 at *; replace HE := Hd.mk HE'; replace HB := Hd.mk HB'; clear HE' HB'; have HOG30 : Hd (∀ k, u9.ownBlock = some k → k < g30) := ⟨fun k hk => Nat.lt_of_lt_of_le (HOLW.out k hk) HLE30.out⟩; replace HM := Hd.mk (HM.out.more HLE30.out); clear HLE30 HOLW; have HE1 : Env X3 [⟨g30, 3, ints (List.replicate N (0 : Int)) ++ rest30⟩, ⟨g11, 45, [.int .i64 Wd, .int .i64 Ht, .slice (some ⟨g30, 0, none⟩) N k30]⟩] := by have h := HE.out; rw [List.length_replicate] at h; exact h
   replace HE := Hd.mk HE1; clear HE1; go_upto_region 7 with fail
   refine wp_region_vd 4 [32, 33, 34, 35] [0, 1, 2, 3] [] 63 [.int .i64 0, .int .i64 0] [qI Wd, qI Ht, qI ((N : Nat) : Int), qI ((((N : Nat) : Int)) - 1)] (by rfl) alloc_Z ?_ ?_
   ·intro qi qh qA aa wx hb hs hd
    match qi, qh, qA with
    | 0, _, _ => exact aL (op_mv rfl (hs 0 rfl)) | 1, _, _ => exact aL (op_mv rfl (hs 1 rfl)) | 2, _, _ => exact aL (pure_b (int_eq HNN.out) (⟨_, op_mul (by unfold Fit; rw [HNN.out]; omega) rfl (hd 0 rfl) (hd 1 rfl), rfl⟩)) | 3, _, _ => exact aL ⟨_, op_sub (by unfold Fit; omega) rfl (hd 2 rfl) rfl, rfl⟩ | qi + 4, h, _ => omega
   intro vs X4 hb hv hal hne; replace HB := Hd.mk (bel_then HB.out hb); replace HE := Hd.mk (HE.out.to hb); replace HM := Hd.mk (HM.out.to hb); have HOL := Hd.mk HO.out.lt; replace HO := Hd.mk (HO.out.to hb); have e35 : vs 35 = .int .i64 ((((N : Nat) : Int)) - 1) := hv 3 (by decide) rfl; simp only [PA, e35]; clear hv hal hne hb e35 HOL; have HE1 : Env X4 [⟨g30, 3, ints (List.replicate N (0 : Int) ++ []) ++ rest30⟩, ⟨g11, 45, [.int .i64 Wd, .int .i64 Ht, .slice (some ⟨g30, 0, none⟩) N k30]⟩] := by have h := HE.out; rw [← List.append_nil (List.replicate N (0 : Int))] at h; exact h
   replace HE := Hd.mk HE1; clear HE1; go_wp2_with fail
   go_loopw [12, 13] (fun s12 s13 wr => ∃ (i r : Nat) (tl : List Int), i ≤ N ∧ r ≤ n ∧ s13 = .int .i64 ((i : Int) - 1) ∧ s12 = .int .i64 r ∧ tl.length + i = N ∧ dgs K N n = dgs K i r ++ tl ∧ OkB wr g30 ts ∧ OwnU w.heap.size wr u9 Wd Ht ts ∧ Env wr [⟨g30, 3, ints (List.replicate i (0 : Int) ++ tl) ++ rest30⟩, ⟨g11, 45, [.int .i64 Wd, .int .i64 Ht, .slice (some ⟨g30, 0, none⟩) N k30]⟩] ∧ Below w.heap.size w wr) (fun _ s13 _ => (intOf s13 + 1).toNat)
   case atStart => exact ⟨N, n, [], Nat.le_refl _, Nat.le_refl _, rfl, rfl, by simp, by rw [List.append_nil], HM.out, HO.out, HE.out, HB.out⟩
   case round =>
    obtain ⟨i, r, tl, hiN, hrn, rfl, rfl, htn, hdg, hok, ho, he, hb⟩ := hrel; clear HB HE HO HM; have HB := Hd.mk hb; have HO := Hd.mk ho; have HM := Hd.mk hok; have HDG := Hd.mk hdg; have HTN := Hd.mk htn; have HE : Hd (Env wr [⟨g30, 3, ints (List.replicate i (0 : Int) ++ tl) ++ rest30⟩, ⟨g11, 45, [.int .i64 Wd, .int .i64 Ht, .slice (some ⟨g30, 0, none⟩) N k30]⟩]) := ⟨he⟩; clear ho he hb hok hdg htn; by_cases hi0 : 0 < i
    ·obtain ⟨i, rfl⟩ : ∃ z, i = z + 1 := ⟨i - 1, by omega⟩; have ei : (((i + 1 : Nat) : Int) - 1) = (i : Int) := by omega
     rw [ei]; clear ei; have hcl : (List.replicate (i + 1) (0 : Int) ++ tl).length = N := by rw [List.length_append, List.length_replicate]; have := HTN.out; omega
     go_upto_region 10 with fail
     refine wp_region_vs 7 [40, 41, 42, 43, 44, 45, 46] [0, 2, 3, 4] [] 63 [.int .i64 0, .int .i64 0] [isV (.pointer (some ⟨g11, 2, none⟩)), isV (.slice (some ⟨g30, 0, none⟩) N k30), qI ((i : Nat) : Int), qI ((r : Nat) : Int), qI ((K : Nat) : Int), qI ((r % K : Nat) : Int), isV (.pointer (some (Addr.add (⟨g30, 0, none⟩) (((i : Nat) : Int)).toNat)))] (by kernel_rfl) (by kernel_rfl) (by kernel_rfl) (by rfl) alloc_Z (fun d v c a w h => by cases d <;> exact h) ?_ ?_
     ·intro qi qh qA aa wx hb hs hd
      match qi, qh, qA with
      | 0, _, _ => exact ⟨_, op_faU2 rfl (hs 11 rfl), rfl⟩ | 1, _, _ => exact op_ldS rfl rfl (hd 0 rfl) ((HE.out.to hb).cell 1 2 rfl rfl) | 2, _, _ => exact op_mv rfl (hs 13 rfl) | 3, _, _ => exact op_mv rfl (hs 12 rfl) | 4, _, _ => exact op_mv rfl (hs 2 rfl) | 5, _, _ => exact wp_b (int_eq (tmod_nat _ _)) (op_run rfl (op_rem (by omega) (by unfold Fit; omega) (by omega) rfl (hd 3 rfl) (hd 4 rfl) _) rfl) | 6, _, _ => exact op_run rfl (op_idx (by omega) (by omega) rfl (hd 1 rfl) (hd 2 rfl) _) rfl | qi + 7, h, _ => omega
     intro vs X1 hb hv hal hne; replace HB := Hd.mk (bel_then HB.out hb); replace HE := Hd.mk (HE.out.to hb); replace HM := Hd.mk (HM.out.to hb); have HOL := Hd.mk HO.out.lt; replace HO := Hd.mk (HO.out.to hb); have e46 : vs 46 = .pointer (some (Addr.add (⟨g30, 0, none⟩) (((i : Nat) : Int)).toNat)) := hv 6 (by decide) rfl; have e45 : vs 45 = .int .i64 (((r % K : Nat) : Int)) := hv 5 (by decide) rfl; simp only [PA, e46, e45]; clear hv hal hne hb e46 e45 HOL; refine wpList_st rfl rfl rfl rfl rfl (sto_at (HE.out.get 0 rfl) (by rw [hcl]; omega)) ?_; have HE' : Env (putL X1 g30 (((i : Nat) : Int)).toNat [.int .i64 (((r % K : Nat) : Int))]) [⟨g30, 3, ints (((List.replicate (i + 1) (0 : Int) ++ tl)).set (((i : Nat) : Int)).toNat (((r % K : Nat) : Int))) ++ rest30⟩, ⟨g11, 45, [.int .i64 Wd, .int .i64 Ht, .slice (some ⟨g30, 0, none⟩) N k30]⟩] := HE.out.putI 0 rfl (by rw [hcl]; omega); have HB' := putL_below (show w.heap.size ≤ g30 from G30.out) [.int .i64 (((r % K : Nat) : Int))] _ ((((i : Nat) : Int)).toNat) HB.out; replace HM := Hd.mk (HM.out.putB (vs := [.int .i64 (((r % K : Nat) : Int))]) (o := (((i : Nat) : Int)).toNat) (HE.out.get 0 rfl)); replace HO := Hd.mk (HO.out.put (vs := [.int .i64 (((r % K : Nat) : Int))]) (o := (((i : Nat) : Int)).toNat) HOG30.out); generalize putL X1 g30 (((i : Nat) : Int)).toNat [.int .i64 (((r % K : Nat) : Int))] = X2 at *; replace HE := Hd.mk HE'; replace HB := Hd.mk HB'; clear HE' HB'; go_upto_region 11 with fail
     refine wp_region_vd 3 [47, 48, 49] [0, 1] [] 63 [.int .i64 0, .int .i64 0] [qI ((r : Nat) : Int), qI ((K : Nat) : Int), qI ((r / K : Nat) : Int)] (by rfl) alloc_Z ?_ ?_
     ·intro qi qh qA aa wx hb hs hd
      match qi, qh, qA with
      | 0, _, _ => exact aL (op_mv rfl (hs 12 rfl)) | 1, _, _ => exact aL (op_mv rfl (hs 2 rfl)) | 2, _, _ => exact aL (wp_b (int_eq (tdiv_nat _ _)) (op_run rfl (op_quo (by omega) (by unfold Fit; omega) (by omega) rfl (hd 0 rfl) (hd 1 rfl) _) rfl)) | qi + 3, h, _ => omega
     intro vs X3 hb hv hal hne; replace HB := Hd.mk (bel_then HB.out hb); replace HE := Hd.mk (HE.out.to hb); replace HM := Hd.mk (HM.out.to hb); have HOL := Hd.mk HO.out.lt; replace HO := Hd.mk (HO.out.to hb); have e49 : vs 49 = .int .i64 (((r / K : Nat) : Int)) := hv 2 (by decide) rfl; simp only [PA, e49]; clear hv hal hne hb e49 HOL; go_upto_region 9 with fail
     refine wp_region_vd 2 [38, 39] [0, 1] [] 63 [.int .i64 0, .int .i64 0] [qI ((i : Nat) : Int), qI ((((i : Nat) : Int)) - 1)] (by rfl) alloc_Z ?_ ?_
     ·intro qi qh qA aa wx hb hs hd
      match qi, qh, qA with
      | 0, _, _ => exact aL (op_mv rfl (hs 13 rfl)) | 1, _, _ => exact aL ⟨_, op_sub (by unfold Fit; omega) rfl (hd 0 rfl) rfl, rfl⟩ | qi + 2, h, _ => omega
     intro vs X4 hb hv hal hne; replace HB := Hd.mk (bel_then HB.out hb); replace HE := Hd.mk (HE.out.to hb); replace HM := Hd.mk (HM.out.to hb); have HOL := Hd.mk HO.out.lt; replace HO := Hd.mk (HO.out.to hb); have e39 : vs 39 = .int .i64 ((((i : Nat) : Int)) - 1) := hv 1 (by decide) rfl; simp only [PA, e39]; clear hv hal hne hb e39 HOL; go_wp2_with fail
     go_roundw
     case rel => exact ⟨i, r / K, ((r % K : Nat) : Int) :: tl, by omega, Nat.le_trans (Nat.div_le_self _ _) hrn, by go_num, rfl, (by have := HTN.out; rw [List.length_cons]; omega), (by rw [HDG.out, dgs, List.append_assoc]; rfl), HM.out, HO.out, (by have h := HE.out; simp only [Int.toNat_natCast, set_rep] at h; exact h), HB.out⟩
     case measure => (simp [intOf]; try omega)
    obtain rfl : i = 0 := by omega
    have HTX : Hd (dgs K N n = tl) := ⟨by rw [HDG.out]; rfl⟩; have htlN : tl.length = N := by have := HTN.out; omega
    have HE1 : Env wr [⟨g30, 3, ints (tl) ++ rest30⟩, ⟨g11, 45, [.int .i64 Wd, .int .i64 Ht, .slice (some ⟨g30, 0, none⟩) tl.length k30]⟩] := by have h := HE.out; rw [List.replicate_zero, List.nil_append] at h; rw [htlN]; exact h
    replace HE := Hd.mk HE1; have HTL : Hd (tl.length = N) := ⟨htlN⟩; have HTW : Hd ((tl.length : Int) = Wd * Ht) := ⟨by rw [htlN]; exact HNN.out.symm⟩; have HMO := HM.out.ok; replace HM := Hd.mk HMO; obtain ⟨lq, hlq⟩ : ∃ lq : Nat → Bool, lq = lsq Wd Ht ms tl := ⟨_, rfl⟩; have HL0' : Hd (lq 0 = true) := ⟨by rw [hlq]; rfl⟩; have HLS' : Hd (∀ j m, ms[j]? = some m → lq (j + 1) = (lq j && !(decide (cmpL (apM Wd Ht m tl) tl < 0)))) := ⟨fun j m hm => by rw [hlq]; exact lsq_step hm⟩; have HLA : Hd (lq ms.length = repB Wd Ht ms (dgs K N n)) := ⟨by rw [hlq, HTX.out]; exact lsq_all⟩; clear HE1 htlN HMO hlq; go_upto_region 13 with fail
    refine wp_region_vd 3 [50, 51, 52] [0, 2] [] 63 [.int .i64 0, .int .i64 0] [isV (.slice A ms.length k), qI ((ms.length : Nat) : Int), qI 0] (by rfl) alloc_Z ?_ ?_
    ·intro qi qh qA aa wx hb hs hd
     match qi, qh, qA with
     | 0, _, _ => exact aL (op_mv rfl (hs 3 rfl)) | 1, _, _ => exact aL (op_lenvVN rfl rfl (hd 0 rfl)) | 2, _, _ => exact aL (op_mv rfl rfl) | qi + 3, h, _ => omega
    intro vs X1 hb hv hal hne; replace HB := Hd.mk (bel_then HB.out hb); replace HE := Hd.mk (HE.out.to hb); replace HM := Hd.mk (HM.out.to hb); have HOL := Hd.mk HO.out.lt; replace HO := Hd.mk (HO.out.to hb); have e50 : vs 50 = .slice A ms.length k := hv 0 (by decide) rfl; have e51 : vs 51 = .int .i64 (((ms.length : Nat) : Int)) := hv 1 (by decide) rfl; have e52 : vs 52 = .int .i64 0 := hv 2 (by decide) rfl; simp only [PA, e50, e51, e52]; clear hv hal hne hb e50 e51 e52 HOL; go_wp2_with fail
    go_loopw [14, 52] (fun s14 s52 wr => ∃ j : Nat, j ≤ ms.length ∧ s52 = .int .i64 j ∧ s14 = .bool (lq j) ∧ OkT wr ts ∧ OwnU w.heap.size wr u9 Wd Ht ts ∧ Env wr [⟨g30, 3, ints (tl) ++ rest30⟩, ⟨g11, 45, [.int .i64 Wd, .int .i64 Ht, .slice (some ⟨g30, 0, none⟩) tl.length k30]⟩] ∧ Below w.heap.size w wr) (fun _ s52 _ => ms.length - (intOf s52).toNat)
    case atStart => exact ⟨0, Nat.zero_le _, rfl, by rw [HL0'.out], HM.out, HO.out, HE.out, HB.out⟩
    case round =>
     obtain ⟨j, hjl, rfl, rfl, hok, ho, he, hb⟩ := hrel; clear HB HE HO HM; have HB := Hd.mk hb; have HO := Hd.mk ho; have HM := Hd.mk hok; have HE : Hd (Env wr [⟨g30, 3, ints (tl) ++ rest30⟩, ⟨g11, 45, [.int .i64 Wd, .int .i64 Ht, .slice (some ⟨g30, 0, none⟩) tl.length k30]⟩]) := ⟨he⟩; clear ho he hb hok; by_cases hj : j < ms.length
     ·obtain ⟨m, hm⟩ : ∃ m, ms[j]? = some m := ⟨_, List.getElem?_eq_getElem hj⟩; obtain ⟨ad, rfl⟩ := HRM.out.some_ hm; have HMJ := Hd.mk hm; have HAL := Hd.mk (HAM.out m (List.mem_of_getElem? hm)); have HLJ := Hd.mk (HLS'.out j m hm); clear hm; go_upto_region 15 with fail
      refine wp_region_vd 3 [54, 55, 16] [] [2] 56 [.int .i64 0, .int .i64 0, .int .i64 0, .bool false] [isV (.pointer (some (ad.add (j * 4)))), isV (.agg #[.int .i64 m.x, .int .i64 m.y, .int .i64 m.t, .bool m.f]), SP.any] (by rfl) alloc_N ?_ ?_
      ·intro qi qh qA aa wx hb hs hd
       match qi, qh, qA with
       | 0, _, _ => exact aL (op_run rfl (op_idxVN hj rfl (hs 50 rfl) (hs 52 rfl) _) rfl) | 1, _, _ => exact aL (op_ldvVN rfl rfl (hd 0 rfl) ((HRM.out.to (bel_then HB.out hb)).at_ HMJ.out)) | 2, _, h => cases h | qi + 3, h, _ => omega
      intro vs X1 hb hv hal hne; have HL0 := Hd.mk (HE.out.lt); have HBW := HB; replace HB := Hd.mk (bel_then HB.out hb); replace HE := Hd.mk (HE.out.to hb); replace HM := Hd.mk (HM.out.to hb); have HOL := Hd.mk HO.out.lt; replace HO := Hd.mk (HO.out.to hb); have e55 : vs 55 = .agg #[.int .i64 m.x, .int .i64 m.y, .int .i64 m.t, .bool m.f] := hv 1 (by decide) rfl; obtain ⟨g16, e16, l16, b16⟩ : ∃ g, vs 16 = .pointer (some ⟨g, 0, none⟩) ∧ _ := hal 2 rfl; replace HE : Hd (Env X1 [⟨g30, 3, ints (tl) ++ rest30⟩, ⟨g11, 45, [.int .i64 Wd, .int .i64 Ht, .slice (some ⟨g30, 0, none⟩) tl.length k30]⟩, ⟨g16, 56, [.int .i64 0, .int .i64 0, .int .i64 0, .bool false]⟩]) := ⟨Env.addne (e := ⟨g16, 56, [.int .i64 0, .int .i64 0, .int .i64 0, .bool false]⟩) HE.out b16 (fun e' he => Nat.ne_of_lt (Nat.lt_of_lt_of_le (HL0.out e' he) l16))⟩; have HOG16 : Hd (∀ k, u9.ownBlock = some k → k < g16) := ⟨fun k hk => Nat.lt_of_lt_of_le (HOL.out k hk).2 l16⟩; have G16 : Hd (w.heap.size ≤ g16) := ⟨Nat.le_trans HBW.out.size l16⟩; simp only [PA, e55, e16]; clear hv hal hne hb HL0 HBW e55 e16 l16 b16 HOL; refine wpList_st rfl rfl rfl rfl rfl (sto_N (HE.out.get 2 rfl)) ?_; have HE' : Env (putL X1 g16 0 [.int .i64 m.x, .int .i64 m.y, .int .i64 m.t, .bool m.f]) [⟨g30, 3, ints (tl) ++ rest30⟩, ⟨g11, 45, [.int .i64 Wd, .int .i64 Ht, .slice (some ⟨g30, 0, none⟩) tl.length k30]⟩, ⟨g16, 56, [.int .i64 m.x, .int .i64 m.y, .int .i64 m.t, .bool m.f]⟩] := HE.out.putF 2 rfl rfl; have HB' := putL_below (show w.heap.size ≤ g16 from G16.out) [.int .i64 m.x, .int .i64 m.y, .int .i64 m.t, .bool m.f] _ 0 HB.out; replace HM := Hd.mk (HM.out.putB (vs := [.int .i64 m.x, .int .i64 m.y, .int .i64 m.t, .bool m.f]) (o := 0) (HE.out.get 2 rfl)); replace HO := Hd.mk (HO.out.put (vs := [.int .i64 m.x, .int .i64 m.y, .int .i64 m.t, .bool m.f]) (o := 0) HOG16.out); generalize putL X1 g16 0 [.int .i64 m.x, .int .i64 m.y, .int .i64 m.t, .bool m.f] = X2 at *; replace HE := Hd.mk HE'; replace HB := Hd.mk HB'; clear HE' HB'; by_cases hq : lq j = true
      ·rw [hq] at HLJ ⊢; have HQ := Hd.mk hq; clear hq; by_cases hc : cmpL (apM Wd Ht m tl) tl < 0
       ·have HC : Hd (decide (cmpL tl (apM Wd Ht m tl) ≤ 0) = false) := ⟨by rw [cmp_le, decide_eq_true hc]; rfl⟩; have HLK : Hd (lq (j + 1) = false) := ⟨by rw [HLJ.out, decide_eq_true hc]; rfl⟩; clear hc HLJ; go_upto_region 16 with fail
        refine wp_region_vg 9 [56, 57, 58, 59, 60, 61, 62, 63, 64] [0, 1, 7, 8] [] 63 [.int .i64 0, .int .i64 0] [qT, qT, isV (.agg #[.int .i64 Wd, .int .i64 Ht, .slice (some ⟨g30, 0, none⟩) tl.length k30]), isV (.agg #[.int .i64 m.x, .int .i64 m.y, .int .i64 m.t, .bool m.f]), isV (.agg #[.int .i64 Wd, .int .i64 Ht, .slice (some ⟨g30, 0, none⟩) tl.length k30]), isFS X2.heap.size Wd Ht (apM Wd Ht m tl), qI (cmpL tl (apM Wd Ht m tl)), qF, qF] (by kernel_rfl) (by kernel_rfl) (by kernel_rfl) (by rfl) alloc_Z (fun d v c a w h => by cases d <;> exact h) ?_ ?_
        ·intro qi qh qA aa wx hb hs hd
         match qi, qh, qA with
         | 0, _, _ => exact aL (op_mv rfl (hs 14 rfl)) | 1, _, _ => exact aL (op_mv rfl (hd 0 rfl)) | 2, _, _ => exact aG (hd 1 rfl) (op_ldU rfl rfl (hs 11 rfl) ((HE.out.to hb).get 1 rfl)) | 3, _, _ => exact aG (hd 1 rfl) (op_ldN rfl rfl (hs 16 rfl) ((HE.out.to hb).get 2 rfl)) | 4, _, _ => exact aG (hd 1 rfl) (op_ldU rfl rfl (hs 11 rfl) ((HE.out.to hb).get 1 rfl)) | 5, _, _ => exact aG (hd 1 rfl) (op_call2 rfl rfl Tryz.call46 (by rw [show aa.eval (.tmp 59) = _ from hd 3 rfl, show aa.eval (.tmp 60) = _ from hd 4 rfl]; exact got_fs hb.size (rapply_got Wd Ht m.x m.y m.t m.f ⟨g30, 0, none⟩ k30 tl _ ((HE.out.to hb).get 0 rfl).ri HAL.out.okm HTW.out))) | 6, _, _ => exact aG (hd 1 rfl) (op_call2 rfl rfl Tryz.call45 (by obtain ⟨g0, k0, rest0, e0, _, _, _, b0⟩ := hd 5 rfl; rw [show aa.eval (.tmp 58) = _ from hd 2 rfl, show aa.eval (.tmp 61) = _ from e0]; exact Order_got Wd Ht ⟨some ⟨g30, 0, none⟩, k30, tl⟩ ⟨some ⟨g0, 0, none⟩, k0, apM Wd Ht m tl⟩ _ ((HE.out.to hb).get 0 rfl).ri b0.ri (by rw [apM_length]) (by rw [apM_length]; have := HTL.out; omega) (by show tl.length ≤ 1000; have := HTL.out; omega) (by rw [apM_length]; have := HTL.out; omega))) | 7, _, _ => exact aG (hd 1 rfl) (pure_b (bool_eq HC.out) (⟨_, op_leqI rfl (hd 6 rfl) rfl, rfl⟩)) | 8, _, _ => exact aL ⟨_, op_pickT rfl (hd 1 rfl) (hd 7 rfl), rfl⟩ | qi + 9, h, _ => omega
        intro vs X3 hb hv hal hne; replace HB := Hd.mk (bel_then HB.out hb); replace HE := Hd.mk (HE.out.to hb); replace HM := Hd.mk (HM.out.to hb); have HOL := Hd.mk HO.out.lt; replace HO := Hd.mk (HO.out.to hb); have e64 : vs 64 = .bool false := hv 8 (by decide) rfl; simp only [PA, e64]; clear hv hal hne hb e64 HOL; go_wp2_with fail
        go_roundw
        case rel => exact ⟨j + 1, by omega, by go_num, by rw [HLK.out], HM.out, HO.out, Env.front (L := [⟨g30, 3, ints (tl) ++ rest30⟩, ⟨g11, 45, [.int .i64 Wd, .int .i64 Ht, .slice (some ⟨g30, 0, none⟩) tl.length k30]⟩]) HE.out, HB.out⟩
        case measure => simp [intOf]; omega
       have HC : Hd (decide (cmpL tl (apM Wd Ht m tl) ≤ 0) = true) := ⟨by rw [cmp_le, decide_eq_false hc]; rfl⟩; have HLK : Hd (lq (j + 1) = true) := ⟨by rw [HLJ.out, decide_eq_false hc]; rfl⟩; clear hc HLJ; go_upto_region 16 with fail
       refine wp_region_vg 9 [56, 57, 58, 59, 60, 61, 62, 63, 64] [0, 1, 7, 8] [] 63 [.int .i64 0, .int .i64 0] [qT, qT, isV (.agg #[.int .i64 Wd, .int .i64 Ht, .slice (some ⟨g30, 0, none⟩) tl.length k30]), isV (.agg #[.int .i64 m.x, .int .i64 m.y, .int .i64 m.t, .bool m.f]), isV (.agg #[.int .i64 Wd, .int .i64 Ht, .slice (some ⟨g30, 0, none⟩) tl.length k30]), isFS X2.heap.size Wd Ht (apM Wd Ht m tl), qI (cmpL tl (apM Wd Ht m tl)), qT, qT] (by kernel_rfl) (by kernel_rfl) (by kernel_rfl) (by rfl) alloc_Z (fun d v c a w h => by cases d <;> exact h) ?_ ?_
       ·intro qi qh qA aa wx hb hs hd
        match qi, qh, qA with
        | 0, _, _ => exact aL (op_mv rfl (hs 14 rfl)) | 1, _, _ => exact aL (op_mv rfl (hd 0 rfl)) | 2, _, _ => exact aG (hd 1 rfl) (op_ldU rfl rfl (hs 11 rfl) ((HE.out.to hb).get 1 rfl)) | 3, _, _ => exact aG (hd 1 rfl) (op_ldN rfl rfl (hs 16 rfl) ((HE.out.to hb).get 2 rfl)) | 4, _, _ => exact aG (hd 1 rfl) (op_ldU rfl rfl (hs 11 rfl) ((HE.out.to hb).get 1 rfl)) | 5, _, _ => exact aG (hd 1 rfl) (op_call2 rfl rfl Tryz.call46 (by rw [show aa.eval (.tmp 59) = _ from hd 3 rfl, show aa.eval (.tmp 60) = _ from hd 4 rfl]; exact got_fs hb.size (rapply_got Wd Ht m.x m.y m.t m.f ⟨g30, 0, none⟩ k30 tl _ ((HE.out.to hb).get 0 rfl).ri HAL.out.okm HTW.out))) | 6, _, _ => exact aG (hd 1 rfl) (op_call2 rfl rfl Tryz.call45 (by obtain ⟨g0, k0, rest0, e0, _, _, _, b0⟩ := hd 5 rfl; rw [show aa.eval (.tmp 58) = _ from hd 2 rfl, show aa.eval (.tmp 61) = _ from e0]; exact Order_got Wd Ht ⟨some ⟨g30, 0, none⟩, k30, tl⟩ ⟨some ⟨g0, 0, none⟩, k0, apM Wd Ht m tl⟩ _ ((HE.out.to hb).get 0 rfl).ri b0.ri (by rw [apM_length]) (by rw [apM_length]; have := HTL.out; omega) (by show tl.length ≤ 1000; have := HTL.out; omega) (by rw [apM_length]; have := HTL.out; omega))) | 7, _, _ => exact aG (hd 1 rfl) (pure_b (bool_eq HC.out) (⟨_, op_leqI rfl (hd 6 rfl) rfl, rfl⟩)) | 8, _, _ => exact aL ⟨_, op_pickT rfl (hd 1 rfl) (hd 7 rfl), rfl⟩ | qi + 9, h, _ => omega
       intro vs X3 hb hv hal hne; replace HB := Hd.mk (bel_then HB.out hb); replace HE := Hd.mk (HE.out.to hb); replace HM := Hd.mk (HM.out.to hb); have HOL := Hd.mk HO.out.lt; replace HO := Hd.mk (HO.out.to hb); have e64 : vs 64 = .bool true := hv 8 (by decide) rfl; simp only [PA, e64]; clear hv hal hne hb e64 HOL; go_wp2_with fail
       go_roundw
       case rel => exact ⟨j + 1, by omega, by go_num, by rw [HLK.out], HM.out, HO.out, Env.front (L := [⟨g30, 3, ints (tl) ++ rest30⟩, ⟨g11, 45, [.int .i64 Wd, .int .i64 Ht, .slice (some ⟨g30, 0, none⟩) tl.length k30]⟩]) HE.out, HB.out⟩
       case measure => simp [intOf]; omega
      have hq' : lq j = false := by simpa using hq
      rw [hq'] at HLJ ⊢; have HLK : Hd (lq (j + 1) = false) := ⟨by rw [HLJ.out]; rfl⟩; clear hq hq' HLJ; go_upto_region 16 with fail
      refine wp_region_vg 9 [56, 57, 58, 59, 60, 61, 62, 63, 64] [0, 1, 8] [] 63 [.int .i64 0, .int .i64 0] [qF, qF, qU, qU, qU, qU, qU, qU, qF] (by kernel_rfl) (by kernel_rfl) (by kernel_rfl) (by rfl) alloc_Z (fun d v c a w h => by cases d <;> exact h) ?_ ?_
      ·intro qi qh qA aa wx hb hs hd
       match qi, qh, qA with
       | 0, _, _ => exact aL (op_mv rfl (hs 14 rfl)) | 1, _, _ => exact aL (op_mv rfl (hd 0 rfl)) | 2, _, _ => exact aS (hd 1 rfl) | 3, _, _ => exact aS (hd 1 rfl) | 4, _, _ => exact aS (hd 1 rfl) | 5, _, _ => exact aS (hd 1 rfl) | 6, _, _ => exact aS (hd 1 rfl) | 7, _, _ => exact aS (hd 1 rfl) | 8, _, _ => exact aL ⟨_, op_pickF rfl (hd 1 rfl) rfl, rfl⟩ | qi + 9, h, _ => omega
      intro vs X3 hb hv hal hne; replace HB := Hd.mk (bel_then HB.out hb); replace HE := Hd.mk (HE.out.to hb); replace HM := Hd.mk (HM.out.to hb); have HOL := Hd.mk HO.out.lt; replace HO := Hd.mk (HO.out.to hb); have e64 : vs 64 = .bool false := hv 8 (by decide) rfl; simp only [PA, e64]; clear hv hal hne hb e64 HOL; go_wp2_with fail
      go_roundw
      case rel => exact ⟨j + 1, by omega, by go_num, by rw [HLK.out], HM.out, HO.out, Env.front (L := [⟨g30, 3, ints (tl) ++ rest30⟩, ⟨g11, 45, [.int .i64 Wd, .int .i64 Ht, .slice (some ⟨g30, 0, none⟩) tl.length k30]⟩]) HE.out, HB.out⟩
      case measure => simp [intOf]; omega
     have e1 : j = ms.length := by omega
     have hla : lq j = repB Wd Ht ms (dgs K N n) := by rw [e1]; exact HLA.out
     rw [hla]; clear hla e1; by_cases hrb : repB Wd Ht ms (dgs K N n) = true
     ·rw [hrb]; have HLN := Hd.mk hrb; clear hrb; go_upto_region 18 with fail
      refine wp_region_vd 1 [66] [0] [] 63 [.int .i64 0, .int .i64 0] [qT] (by rfl) alloc_Z ?_ ?_
      ·intro qi qh qA aa wx hb hs hd
       match qi, qh, qA with
       | 0, _, _ => exact aL (op_mv rfl (hs 14 rfl)) | qi + 1, h, _ => omega
      intro vs X1 hb hv hal hne; replace HB := Hd.mk (bel_then HB.out hb); replace HE := Hd.mk (HE.out.to hb); replace HM := Hd.mk (HM.out.to hb); have HOL := Hd.mk HO.out.lt; replace HO := Hd.mk (HO.out.to hb); have e66 : vs 66 = .bool true := hv 0 (by decide) rfl; simp only [PA, e66]; clear hv hal hne hb e66 HOL; have k26a := HE.out.cell 1 0 rfl rfl; have k26b := HE.out.cell 1 1 rfl rfl; have k26c := HE.out.cell 1 2 rfl rfl; have HXS := Nat.le_trans HB.out.size (Nat.le_refl _); obtain ⟨i0, hi0', hz0, hz1, hz2⟩ := info_parts Tryz.info_rstamp; go_wp2_with (first | (at_builtin; refine wpList_append_own _ rfl (.tmp 67) (.tmp 69) 39 rfl w.heap.size 45 i0 (.agg #[.int .i64 0, .int .i64 0, .slice none 0 0]) 3 40 Tryz.underlying39 hi0' hz0 hz1 hz2 rfl (by decide) u9 ts.length (ts.flatMap (encT Wd Ht)) rfl (HO.out.to (below_alloc (Below.refl _ _) _)) ⟨X1.heap.size, 0, none⟩ 1 1 [.int .i64 Wd, .int .i64 Ht, .slice (some ⟨g30, 0, none⟩) tl.length k30] rfl rfl ?c1 ?c2 ?c3 ?c4 ?c5 ?_) | fail)
      case c1 =>
       intro z u hz; rcases z with _ | _ | _ | z <;> simp at hz <;> subst hz <;> simp [Addr.add]
      case c2 =>
       intro u hu; simp at hu; rcases hu with rfl | rfl | rfl <;> rfl
      case c3 => unfold maxLen; omega
      case c4 => omega
      case c5 => simp; omega
      intro v1 w1 hown1 hg1 _; have HB1 := (below_alloc HB.out _).grown hg1 (by simp; omega) (fun z hz => (HO.out.lt z hz).1); have HM0 : OkT (X1.alloc (.cells #[.int .i64 Wd, .int .i64 Ht, .slice (some ⟨g30, 0, none⟩) tl.length k30] 45)) (ts ++ [(⟨some ⟨g30, 0, none⟩, k30, tl⟩ : Sl)]) := fun s hs => (List.mem_append.1 hs).elim (fun h => (HM.out s h).to (below_alloc (Below.refl X1.heap.size X1) _)) (fun h => by rw [List.mem_singleton.1 h]; exact ⟨(fs_cells (HE.out.get 0 rfl)).to (below_alloc (Below.refl _ _) _), by show tl.length ≤ _; rw [HTL.out]; omega⟩)
      have HM1 := OkT.grown_ HM0 hg1 (OwnU.blk (HO.out.to (below_alloc (Below.refl _ _) _)))
      have HO1 : OwnU w.heap.size w1 v1 Wd Ht (ts ++ [(⟨some ⟨g30, 0, none⟩, k30, tl⟩ : Sl)]) := by
       unfold OwnU; rw [List.flatMap_append, List.length_append, show [(⟨some ⟨g30, 0, none⟩, k30, tl⟩ : Sl)].flatMap (encT Wd Ht) = [.int .i64 Wd, .int .i64 Ht, .slice (some ⟨g30, 0, none⟩) tl.length k30] from by simp [encT]]; exact hown1
      have HMP1 : (ts ++ [(⟨some ⟨g30, 0, none⟩, k30, tl⟩ : Sl)]).map Sl.xs = ((List.range (n + 1)).map (dgs K N)).filter (repB Wd Ht ms) := by
       rw [list_yes HLN.out, List.map_append, HMP.out, HTX.out]; rfl
      replace HB := Hd.mk HB1; replace HO := Hd.mk HO1; replace HM := Hd.mk HM1; clear HB1 HO1 HM1 HM0 hown1 hg1 HE; go_wp2_with fail
      go_roundw
      case rel => exact ⟨n + 1, _, by omega, by go_num, (by simp; omega), HMP1, HM.out, HO.out, HB.out⟩
      case measure => simp [intOf]; omega
     have hrb' : repB Wd Ht ms (dgs K N n) = false := by simpa using hrb
     rw [hrb']; have HLN := Hd.mk hrb'; clear hrb hrb'; go_upto_region 18 with fail
     refine wp_region_vd 1 [66] [0] [] 63 [.int .i64 0, .int .i64 0] [qF] (by rfl) alloc_Z ?_ ?_
     ·intro qi qh qA aa wx hb hs hd
      match qi, qh, qA with
      | 0, _, _ => exact aL (op_mv rfl (hs 14 rfl)) | qi + 1, h, _ => omega
     intro vs X1 hb hv hal hne; replace HB := Hd.mk (bel_then HB.out hb); replace HE := Hd.mk (HE.out.to hb); replace HM := Hd.mk (HM.out.to hb); have HOL := Hd.mk HO.out.lt; replace HO := Hd.mk (HO.out.to hb); have e66 : vs 66 = .bool false := hv 0 (by decide) rfl; simp only [PA, e66]; clear hv hal hne hb e66 HOL; go_wp2_with fail
     go_roundw
     case rel => exact ⟨n + 1, ts, by omega, by go_num, by omega, (by rw [list_no HLN.out]; exact HMP.out), HM.out, HO.out, HB.out⟩
     case measure => simp [intOf]; omega
  have e1 : n = M := by omega
  have HMP1 : ts.map Sl.xs = listL Wd Ht ms K N := by rw [HMP.out, e1, ← HMK.out]; rfl
  have hne : ts ≠ [] := fun e => by
   rw [e] at HMP1; exact HNE.out HMP1.symm
  obtain ⟨gO, capO, restO, e2, hlo, hbk, _⟩ := HO.out.row hne; clear e1; subst e2; have HRES : Hd ((isUs w.heap.size Wd Ht (listL Wd Ht ms K N)).p (.slice (some ⟨gO, 0, none⟩) ts.length capO) wr) := ⟨⟨gO, capO, restO, ts, rfl, HMP1, hlo, hbk, HM.out⟩⟩; clear hbk hlo HMP1; go_wp2_with fail
  go_ret
  exact ⟨_, rfl, HB.out, HRES.out⟩
end Go.Proofs.YtddbmckbankmeaaGreat
