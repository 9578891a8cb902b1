/- Part 12 of the texts behind this claim. -/
import Derived.Test.YtddbmckbankmeaaGreatKc9
import Derived.Test.YtddbmckbankmeaaGreatKc10
import Derived.Test.YtddbmckbankmeaaGreatKc11
set_option linter.unusedVariables false
set_option linter.unusedSimpArgs false
namespace Go.Proofs.YtddbmckbankmeaaGreat
open Go.RowKit
set_option maxRecDepth 100000 in
set_option maxHeartbeats 1000000 in
theorem Orbit_ok (Wd Ht : Int) (A : Option Addr) (k : Nat) (ms : List Mv) (B : Option Addr) (c : Nat) (xs : List Int) (w : World) (hrm : RdM w A ms) (hln : ms.length ≤ 100000) (hri : RI w B xs) (hv : validB Wd Ht xs = true) (hg : gB Wd Ht ms = true) :
  Calls Tryz.prog 56 #[.slice A ms.length k, .agg #[.int .i64 Wd, .int .i64 Ht, .slice B xs.length c]] w (Got w (isP (isTs w.heap.size Wd Ht (orbL Wd Ht xs ms)) (isV (.int .i64 0))).p) := by
 have HRM := Hd.mk hrm; have HV := Hd.mk hv; have HG := Hd.mk hg; have HS := Hd.mk (valid_size hv); have HVL := Hd.mk (valid_len hv); have hsh := valid_short hv; obtain ⟨bd, rfl⟩ := valid_some hri hv; have HRI := Hd.mk hri; have HALL : Hd (∀ i, i < ms.length → Al Wd Ht (nthM ms i)) := ⟨group_all hg (valid_size hv)⟩; have HNZ := Hd.mk (group_nz hg (valid_size hv)); clear hrm hri hv hg; go_enter Tryz.func56, Tryz.ntmps56
 go_upto_region 1 with fail
 obtain ⟨W0, hW0⟩ : ∃ W : World, W = w.alloc (.cells #[.int .i64 Wd, .int .i64 Ht, .slice (some bd) xs.length c] 43) := ⟨_, rfl⟩; rw [← hW0]; obtain ⟨he, hb⟩ := env_one hW0; have HE := Hd.mk he; have HB := Hd.mk hb; clear he hb hW0; refine wp_region_vd 10 [9, 10, 11, 12, 13, 14, 15, 16, 17, 18] [2, 3, 6, 8, 9] [] 63 [.int .i64 0, .int .i64 0] [isV (.agg #[.int .i64 Wd, .int .i64 Ht, .slice (some bd) xs.length c]), qT, qF, qF, isV (.agg #[.int .i64 Wd, .int .i64 Ht, .slice (some bd) xs.length c]), isV (.agg #[.int .i64 Wd, .int .i64 Ht]), isV (.slice A ms.length k), qT, qF, qF] (by rfl) alloc_Z ?_ ?_
 ·intro qi qh qA aa wx hb hs hd
  match qi, qh, qA with
  | 0, _, _ => exact aL (op_ldT rfl rfl (hs 3 rfl) ((HE.out.to hb).get 0 rfl)) | 1, _, _ => exact aL (wp_b (bool_eq HV.out) (op_call1 rfl rfl Tryz.call75 (by rw [(show aa.eval (.tmp 9) = .agg #[.int .i64 Wd, .int .i64 Ht, .slice (some bd) xs.length c] from (hd 0 rfl))]; exact Valid_got Wd Ht (some bd) c xs _ (HRI.out.to (bel_then HB.out hb))))) | 2, _, _ => exact aL ⟨_, op_not rfl (hd 1 rfl), rfl⟩ | 3, _, _ => exact aL (op_mv rfl (hd 2 rfl)) | 4, _, _ => exact aG (hd 3 rfl) (op_ldT rfl rfl (hs 3 rfl) ((HE.out.to hb).get 0 rfl)) | 5, _, _ => exact aG (hd 3 rfl) (op_call1 rfl rfl Tryz.call76 (by rw [(show aa.eval (.tmp 13) = .agg #[.int .i64 Wd, .int .i64 Ht, .slice (some bd) xs.length c] from (hd 4 rfl))]; exact size_got Wd Ht (some bd) xs.length c _)) | 6, _, _ => exact aG (hd 3 rfl) (op_mv rfl (hs 0 rfl)) | 7, _, _ => exact aG (hd 3 rfl) (wp_b (bool_eq HG.out) (op_call2 rfl rfl Tryz.call23 (by rw [(show aa.eval (.tmp 14) = .agg #[.int .i64 Wd, .int .i64 Ht] from (hd 5 rfl)), (show aa.eval (.tmp 15) = .slice A ms.length k from (hd 6 rfl))]; exact group_got Wd Ht A k ms _ (HRM.out.to (bel_then HB.out hb)) (by omega) HS.out))) | 8, _, _ => exact aG (hd 3 rfl) ⟨_, op_not rfl (hd 7 rfl), rfl⟩ | 9, _, _ => exact aL ⟨_, op_pickF rfl (hd 3 rfl) (hd 8 rfl), rfl⟩ | qi + 10, h, _ => omega
 intro vs X1 hb hv hal hne; replace HB := Hd.mk (bel_then HB.out hb); replace HE := Hd.mk (HE.out.to hb); have e18 : vs 18 = .bool false := hv 9 (by decide) rfl; simp only [PA, e18]; clear hv hal hne hb e18; go_upto_region 3 with fail
 refine wp_region_vd 0 [] [] [] 63 [.int .i64 0, .int .i64 0] [] (by rfl) alloc_Z ?_ ?_
 ·intro qi qh qA aa wx hb hs hd
  match qi, qh, qA with
  | qi + 0, h, _ => omega
 intro vs X2 hb hv hal hne; replace HB := Hd.mk (bel_then HB.out hb); replace HE := Hd.mk (HE.out.to hb); simp only [PA]; clear hv hal hne hb; go_upto_region 4 with fail
 refine wp_region_vd 3 [19, 20, 21] [0, 2] [] 63 [.int .i64 0, .int .i64 0] [isV (.slice A ms.length k), qI ((ms.length : Nat) : Int), qI 0] (by rfl) alloc_Z ?_ ?_
 ·intro qi qh qA aa wx hb hs hd
  match qi, qh, qA with
  | 0, _, _ => exact aL (op_mv rfl (hs 0 rfl)) | 1, _, _ => exact aL (op_lenvVM rfl rfl (hd 0 rfl)) | 2, _, _ => exact aL (op_mv rfl rfl) | qi + 3, h, _ => omega
 intro vs X3 hb hv hal hne; replace HB := Hd.mk (bel_then HB.out hb); replace HE := Hd.mk (HE.out.to hb); have e19 : vs 19 = .slice A ms.length k := hv 0 (by decide) rfl; have e20 : vs 20 = .int .i64 (((ms.length : Nat) : Int)) := hv 1 (by decide) rfl; have e21 : vs 21 = .int .i64 0 := hv 2 (by decide) rfl; simp only [PA, e19, e20, e21]; clear hv hal hne hb e19 e20 e21; have HO : Hd (OwnT (w.heap.size + 1) X3 (.slice none 0 0) Wd Ht []) := ⟨World.ownsRow_nil _ _ _ _⟩; go_wp2_with fail
 go_loopw [6, 21] (fun s6 s21 wr => ∃ (j : Nat) (ts : List Sl), j ≤ ms.length ∧ s21 = .int .i64 j ∧ ts.map Sl.xs = (ms.take j).map (fun m => apM Wd Ht m xs) ∧ OkT wr ts ∧ OwnT (w.heap.size + 1) wr s6 Wd Ht ts ∧ Env wr [⟨w.heap.size, 43, [.int .i64 Wd, .int .i64 Ht, .slice (some bd) xs.length c]⟩] ∧ Below w.heap.size w wr) (fun _ s21 _ => ms.length - (intOf s21).toNat)
 case atStart => exact ⟨0, [], Nat.zero_le _, rfl, rfl, (fun s hs => by cases hs), HO.out, HE.out, HB.out⟩
 case round =>
  obtain ⟨j, ts, hjl, rfl, hmp, hok, ho, he, hb⟩ := hrel; clear HB HE HO; have HB := Hd.mk hb; have HO := Hd.mk ho; have HM := Hd.mk hok; have HMP := Hd.mk hmp; have HE : Hd (Env wr [⟨w.heap.size, 43, [.int .i64 Wd, .int .i64 Ht, .slice (some bd) xs.length c]⟩]) := ⟨he⟩; have HTL : Hd (ts.length = j) := ⟨by have := congrArg List.length hmp; rw [List.length_map, List.length_map, List.length_take] at this; omega⟩; have htl := HTL.out; clear ho he hb hok hmp; by_cases hj : j < ms.length
  ·obtain ⟨m, hm⟩ : ∃ m, ms[j]? = some m := ⟨_, List.getElem?_eq_getElem hj⟩; obtain ⟨ad, rfl⟩ := HRM.out.some_ hm; have HMJ := Hd.mk hm; have HAL : Hd (Al Wd Ht m) := ⟨by have h := HALL.out j hj; rwa [nthM_at hm] at h⟩; clear hm; go_upto_region 6 with fail
   refine wp_region_vd 3 [23, 24, 8] [] [2] 65 [.int .i64 0, .int .i64 0, .int .i64 0, .bool false] [isV (.pointer (some (ad.add (j * 4)))), isV (.agg #[.int .i64 m.x, .int .i64 m.y, .int .i64 m.t, .bool m.f]), SP.any] (by rfl) alloc_M ?_ ?_
   ·intro qi qh qA aa wx hb hs hd
    match qi, qh, qA with
    | 0, _, _ => exact aL (op_run rfl (op_idxVM hj rfl (hs 19 rfl) (hs 21 rfl) _) rfl) | 1, _, _ => exact aL (op_ldvVM rfl rfl (hd 0 rfl) ((HRM.out.to (bel_then HB.out hb)).at_ HMJ.out)) | 2, _, h => cases h | qi + 3, h, _ => omega
   intro vs X1 hb hv hal hne; have HL0 := Hd.mk (HE.out.lt); have HBW := HB; replace HB := Hd.mk (bel_then HB.out hb); replace HE := Hd.mk (HE.out.to hb); replace HM := Hd.mk (HM.out.to hb); have HOL := Hd.mk HO.out.lt; replace HO := Hd.mk (HO.out.to hb); have e24 : vs 24 = .agg #[.int .i64 m.x, .int .i64 m.y, .int .i64 m.t, .bool m.f] := hv 1 (by decide) rfl; obtain ⟨g8, e8, l8, b8⟩ : ∃ g, vs 8 = .pointer (some ⟨g, 0, none⟩) ∧ _ := hal 2 rfl; replace HE : Hd (Env X1 [⟨w.heap.size, 43, [.int .i64 Wd, .int .i64 Ht, .slice (some bd) xs.length c]⟩, ⟨g8, 65, [.int .i64 0, .int .i64 0, .int .i64 0, .bool false]⟩]) := ⟨Env.addne (e := ⟨g8, 65, [.int .i64 0, .int .i64 0, .int .i64 0, .bool false]⟩) HE.out b8 (fun e' he => Nat.ne_of_lt (Nat.lt_of_lt_of_le (HL0.out e' he) l8))⟩; have HOG8 : Hd (∀ k, u6.ownBlock = some k → k < g8) := ⟨fun k hk => Nat.lt_of_lt_of_le (HOL.out k hk).2 l8⟩; have G8 : Hd (w.heap.size ≤ g8) := ⟨Nat.le_trans HBW.out.size l8⟩; simp only [PA, e24, e8]; clear hv hal hne hb HL0 HBW e24 e8 l8 b8 HOL; refine wpList_st rfl rfl rfl rfl rfl (sto_M (HE.out.get 1 rfl)) ?_; have HE' : Env (putL X1 g8 0 [.int .i64 m.x, .int .i64 m.y, .int .i64 m.t, .bool m.f]) [⟨w.heap.size, 43, [.int .i64 Wd, .int .i64 Ht, .slice (some bd) xs.length c]⟩, ⟨g8, 65, [.int .i64 m.x, .int .i64 m.y, .int .i64 m.t, .bool m.f]⟩] := HE.out.putF 1 rfl rfl; have HB' := putL_below (show w.heap.size ≤ g8 from G8.out) [.int .i64 m.x, .int .i64 m.y, .int .i64 m.t, .bool m.f] _ 0 HB.out; replace HM := Hd.mk (HM.out.putB (vs := [.int .i64 m.x, .int .i64 m.y, .int .i64 m.t, .bool m.f]) (o := 0) (HE.out.get 1 rfl)); replace HO := Hd.mk (HO.out.put (vs := [.int .i64 m.x, .int .i64 m.y, .int .i64 m.t, .bool m.f]) (o := 0) HOG8.out); generalize putL X1 g8 0 [.int .i64 m.x, .int .i64 m.y, .int .i64 m.t, .bool m.f] = X2 at *; replace HE := Hd.mk HE'; replace HB := Hd.mk HB'; clear HE' HB'; go_upto_region 7 with fail
   refine wp_region_vs 7 [25, 26, 27, 28, 29, 30, 31] [0] [] 63 [.int .i64 0, .int .i64 0] [isV (u6), isV (.agg #[.int .i64 Wd, .int .i64 Ht, .slice (some bd) xs.length c]), isV (.agg #[.int .i64 Wd, .int .i64 Ht]), isV (.agg #[.int .i64 m.x, .int .i64 m.y, .int .i64 m.t, .bool m.f]), isV (.agg #[.int .i64 Wd, .int .i64 Ht, .slice (some bd) xs.length c]), isFS X2.heap.size Wd Ht (apM Wd Ht m xs), isR1 X2.heap.size Wd Ht (apM Wd Ht m xs)] (by kernel_rfl) (by kernel_rfl) (by kernel_rfl) (by rfl) alloc_Z (fun d v c a w h => by cases d <;> exact h) ?_ ?_
   ·intro qi qh qA aa wx hb hs hd
    match qi, qh, qA with
    | 0, _, _ => exact op_mv rfl (hs 6 rfl) | 1, _, _ => exact op_ldT rfl rfl (hs 3 rfl) ((HE.out.to hb).get 0 rfl) | 2, _, _ => exact op_call1 rfl rfl Tryz.call76 (by rw [(show aa.eval (.tmp 26) = .agg #[.int .i64 Wd, .int .i64 Ht, .slice (some bd) xs.length c] from (hd 1 rfl))]; exact size_got Wd Ht (some bd) xs.length c _) | 3, _, _ => exact op_ldM rfl rfl (hs 8 rfl) ((HE.out.to hb).get 1 rfl) | 4, _, _ => exact op_ldT rfl rfl (hs 3 rfl) ((HE.out.to hb).get 0 rfl) | 5, _, _ => exact op_call3 rfl rfl Tryz.call33 (by rw [(show aa.eval (.tmp 27) = .agg #[.int .i64 Wd, .int .i64 Ht] from (hd 2 rfl)), (show aa.eval (.tmp 28) = .agg #[.int .i64 m.x, .int .i64 m.y, .int .i64 m.t, .bool m.f] from (hd 3 rfl)), (show aa.eval (.tmp 29) = .agg #[.int .i64 Wd, .int .i64 Ht, .slice (some bd) xs.length c] from (hd 4 rfl))]; exact got_fs hb.size (apply_got Wd Ht m.x m.y m.t m.f bd c xs _ (HRI.out.to (bel_then HB.out hb)) HAL.out.okm HVL.out)) | 6, _, _ => exact op_row1 rfl rfl (hd 5 rfl) _ hb.size | qi + 7, h, _ => omega
   intro vs X3 hb hv hal hne; have HBW := HB; replace HB := Hd.mk (bel_then HB.out hb); replace HE := Hd.mk (HE.out.to hb); replace HM := Hd.mk (HM.out.to hb); have HOL := Hd.mk HO.out.lt; replace HO := Hd.mk (HO.out.to hb); have e25 : vs 25 = u6 := hv 0 (by decide) rfl; obtain ⟨gR, AR, kR, e31, lR, bR, cR⟩ : (isR1 X2.heap.size Wd Ht (apM Wd Ht m xs)).p (vs 31) X3 := hv 6 (by decide) rfl; have HR1 := Hd.mk bR; have HRC := Hd.mk cR; have HRL := Hd.mk (Nat.le_trans HBW.out.size lR); clear lR bR cR; simp only [PA, e25, e31]; clear hv hal hne hb HBW e25 e31 HOL; have HXS := Nat.le_trans HB.out.size (Nat.le_refl _); obtain ⟨i0, hi0, hz0, hz1, hz2⟩ := info_parts Tryz.info_stamp; have hg0 := (HE.out.get 0 rfl).lt; refine wpList_append_own _ rfl (.tmp 25) (.tmp 31) 31 rfl (w.heap.size + 1) 43 i0 (.agg #[.int .i64 0, .int .i64 0, .slice none 0 0]) 3 40 Tryz.underlying31 hi0 hz0 hz1 hz2 rfl (by decide) u6 ts.length (ts.flatMap (encT Wd Ht)) rfl HO.out ⟨gR, 0, none⟩ 1 1 [.int .i64 Wd, .int .i64 Ht, .slice AR (apM Wd Ht m xs).length kR] rfl rfl ?c1 ?c2 ?c3 ?c4 ?c5 ?_
   case c1 =>
    intro z u hz; rw [addr_zero, HR1.out.cell]; exact hz
   case c2 =>
    intro u hu; simp at hu; rcases hu with rfl | rfl | rfl <;> rfl
   case c3 => unfold maxLen; omega
   case c4 => omega
   case c5 => omega
   intro v1 w1 hown1 hg1 _; have HB1 := HB.out.grown hg1 (by omega) (fun z hz => Nat.le_trans (Nat.le_succ _) (HO.out.lt z hz).1)
   have HE1 := (Env.grownBy_ HE.out hg1 (fun e he hz => by
    have h1 := HO.out.lt e.g hz.symm; rcases List.mem_cons.1 he with rfl | he
    ·exact absurd h1.1 (Nat.not_succ_le_self _)
    rw [List.mem_singleton.1 he] at hz
    exact absurd (HOG8.out _ hz.symm) (by simp)))
   have HM0 : OkT X3 (ts ++ [⟨AR, kR, apM Wd Ht m xs⟩]) := by
    intro s hs; rcases List.mem_append.1 hs with h | h
    ·exact HM.out s h
    rw [List.mem_singleton.1 h]; exact ⟨HRC.out, by show (apM Wd Ht m xs).length ≤ _; rw [apM_length]; omega⟩
   have HM1 := OkT.grown_ HM0 hg1 HO.out.blk; clear HM0
   have HO1 : OwnT (w.heap.size + 1) w1 v1 Wd Ht (ts ++ [⟨AR, kR, apM Wd Ht m xs⟩]) := by
    unfold OwnT; rw [List.flatMap_append, List.length_append]; exact hown1
   have HMP1 : (ts ++ [⟨AR, kR, apM Wd Ht m xs⟩] : List Sl).map Sl.xs = (ms.take (j + 1)).map (fun m => apM Wd Ht m xs) := by
    rw [List.map_append, HMP.out, List.take_add_one, HMJ.out, List.map_append]; rfl
   replace HB := Hd.mk HB1; replace HO := Hd.mk HO1; replace HE := Hd.mk HE1; replace HM := Hd.mk HM1; clear HB1 HO1 HE1 HM1 hown1 hg1; go_wp2_with fail
   go_roundw
   case rel => exact ⟨j + 1, _, by omega, by go_num, HMP1, HM.out, HO.out, Env.front (L := [⟨w.heap.size, 43, [.int .i64 Wd, .int .i64 Ht, .slice (some bd) xs.length c]⟩]) HE.out, HB.out⟩
   case measure => simp [intOf]; omega
  have e1 : j = ms.length := by omega
  have HMP1 : ts.map Sl.xs = ms.map (fun m => apM Wd Ht m xs) := by
   rw [HMP.out, e1, List.take_length]
  have hne : ts ≠ [] := fun e => by rw [e] at htl; have := HNZ.out; simp at htl; omega
  obtain ⟨g, cap, rest, e6, hlo, hbk, hlc, hcm⟩ := HO.out.row hne; have hcm2 : cap ≤ 9223372036854775807 := hcm; clear hcm; have hso := sortT_calls Wd Ht g cap ts rest wr hbk HM.out (by omega); have HCP := Hd.mk (fun (ts' : List Sl) (w1 : World) (h1 : Blk w1 g 43 (ts'.flatMap (encT Wd Ht) ++ rest)) (h2 : OkT w1 ts') (h3 : ts'.length = ts.length) => (show Calls Tryz.prog 89 #[.slice (some ⟨g, 0, none⟩) ts.length cap, _] w1 _ from by rw [← h3]; exact Compact_calls Wd Ht g cap ts' rest w1 h1 h2 (by omega) (by omega) hcm2)); have HBK := Hd.mk hbk; have HLO := Hd.mk hlo; clear hbk hlo htl e1 hlc; subst e6; go_wp2_with (first | (go_at_call 88; refine hso.mono ?_; rintro e1 w1 ⟨rfl, ts1, hp1, hs1, hb1, hg1⟩) | (go_at_call 89; refine (HCP.out ts1 _ hb1 (OkT.by_ (fun s hs => HM.out s (hp1.mem_iff.1 hs)) hg1 HBK.out (by decide)) hp1.length_eq).mono ?_; rintro e2 w2 ⟨rest2, rfl, hb2, hg2⟩))
  refine bodyPost_ret (v := .tuple #[.slice (some ⟨g, 0, none⟩) (ddN ts1 ts1.length).length cap, .int .i64 0]) (by simp [results, Tryz.results56, go_sem]) rfl ?_; have HB2 := (HB.out.grown hg1 (by have := HB.out.size; omega) (fun z hz => by injection hz with hz; have := HLO.out; omega)).grown hg2 (by have := HB.out.size; have := hg1.size; omega) (fun z hz => by injection hz with hz; have := HLO.out; omega); have HOK1 : OkT w1 ts1 := OkT.by_ (fun s hs => HM.out s (hp1.mem_iff.1 hs)) hg1 HBK.out (by decide); have HOK2 : OkT w2 (ddN ts1 ts1.length) := OkT.by_ (fun s hs => HOK1 s (ddN_mem (Nat.le_refl _) s hs)) hg2 hb1 (by decide); exact ⟨_, rfl, HB2, _, _, rfl, ⟨g, cap, rest2, ddN ts1 ts1.length, rfl, orb_of HMP1 hp1 hs1 hne, Nat.le_trans (Nat.le_succ _) HLO.out, hb2, HOK2⟩, rfl⟩
def leastL (W H : Int) (xs : List Int) (ms : List Mv) : List Int := (orbL W H xs ms).getD 0 []
def okS (W H : Int) (ys : List Int) : SP := ⟨fun v w => ∃ s : Sl, s.xs = ys ∧ v = .agg #[.int .i64 W, .int .i64 H, .slice s.A s.xs.length s.k] ∧ s.ok w, fun v w w' h hb => by
 obtain ⟨s, h1, h2, h3⟩ := h
 exact ⟨s, h1, h2, h3.to hb⟩⟩
theorem OkT.one {w : World} {s : Sl} (h : s.ok w) : OkT w [s] := fun z hz => by rw [List.mem_singleton.1 hz]; exact h
theorem ts_head {W H : Int} {xs : List Int} {ms : List Mv} {ts : List Sl} {s : Sl} (h : ts.map Sl.xs = orbL W H xs ms) (hs : ts[0]? = some s) : leastL W H xs ms = s.xs := by
 unfold leastL; rw [← h]; simp [List.getD_eq_getElem?_getD, hs]
theorem orb_mem {W H : Int} {xs : List Int} {ms : List Mv} {z : List Int} : z ∈ orbL W H xs ms ↔ ∃ m ∈ ms, apM W H m xs = z := by
 obtain ⟨_, k2⟩ := fold_ins (ms.map fun m => apM W H m xs) [] List.Pairwise.nil; unfold orbL; rw [k2, List.mem_map]; simp
theorem orb_rises (W H : Int) (xs : List Int) (ms : List Mv) : (orbL W H xs ms).Pairwise (fun a b => cmpL a b < 0) := (fold_ins _ [] List.Pairwise.nil).1
theorem ts_some {W H : Int} {xs : List Int} {ms : List Mv} {ts : List Sl} (h : ts.map Sl.xs = orbL W H xs ms) (hm : 0 < ms.length) : ∃ s, ts[0]? = some s := by
 cases ts with
 | nil =>
  have h2 : apM W H ms[0] xs ∈ orbL W H xs ms := orb_mem.2 ⟨_, List.getElem_mem _, rfl⟩; rw [← h] at h2; cases h2
 | cons a l => exact ⟨a, rfl⟩
theorem got_ts {f lo lo' : Nat} {vs : Array Value} {w : World} {W H : Int} {xss : List (List Int)} {q : SP} (h : lo ≤ lo') (hc : Calls Tryz.prog f vs w (Got w (isP (isTs lo' W H xss) q).p)) : Calls Tryz.prog f vs w (Got w (isP (isTs lo W H xss) q).p) :=
 hc.mono fun e w' ⟨v, h1, h2, x, y, h3, ⟨g, k, rest, ts, h4, h5, h6, h7⟩, h8⟩ => ⟨v, h1, h2, x, y, h3, ⟨g, k, rest, ts, h4, h5, Nat.le_trans h h6, h7⟩, h8⟩
set_option maxRecDepth 100000 in
set_option maxHeartbeats 1000000 in
theorem Least_ok (Wd Ht : Int) (A : Option Addr) (k : Nat) (ms : List Mv) (B : Option Addr) (c : Nat) (xs : List Int) (w : World) (hrm : RdM w A ms) (hln : ms.length ≤ 100000) (hri : RI w B xs) (hv : validB Wd Ht xs = true) (hg : gB Wd Ht ms = true) :
  Calls Tryz.prog 21 #[.slice A ms.length k, .agg #[.int .i64 Wd, .int .i64 Ht, .slice B xs.length c]] w (Got w (isP (okS Wd Ht (leastL Wd Ht xs ms)) (isV (.int .i64 0))).p) := by
 have HNZ := Hd.mk (group_nz hg (valid_size hv)); have HRM := Hd.mk hrm; have HRI := Hd.mk hri; have HV := Hd.mk hv; have HG := Hd.mk hg; clear hrm hri hv hg; go_enter Tryz.func21, Tryz.ntmps21
 go_upto_region 1 with fail
 obtain ⟨W0, hW0⟩ : ∃ W : World, W = (w.alloc (.cells #[.int .i64 Wd, .int .i64 Ht, .slice B xs.length c] 43)).alloc (.cells #[.int .i64 0, .int .i64 0, .slice none 0 0] 43) := ⟨_, rfl⟩; rw [← hW0]; obtain ⟨he, hb⟩ := env_two hW0; have HE := Hd.mk he; have HB := Hd.mk hb; clear he hb hW0; refine wp_region_vd 6 [9, 10, 11, 8, 12, 13] [0, 3, 4, 5] [] 63 [.int .i64 0, .int .i64 0] [isV (.slice A ms.length k), isV (.agg #[.int .i64 Wd, .int .i64 Ht, .slice B xs.length c]), isP (isTs W0.heap.size Wd Ht (orbL Wd Ht xs ms)) (qI 0), isP (isTs W0.heap.size Wd Ht (orbL Wd Ht xs ms)) (qI 0), isTs W0.heap.size Wd Ht (orbL Wd Ht xs ms), qI 0] (by rfl) alloc_Z ?_ ?_
 ·intro qi qh qA aa wx hb hs hd
  match qi, qh, qA with
  | 0, _, _ => exact aL (op_mv rfl (hs 0 rfl)) | 1, _, _ => exact aL (op_ldT rfl rfl (hs 3 rfl) ((HE.out.to hb).get 0 rfl)) | 2, _, _ => exact aL (op_call2 rfl rfl Tryz.call56 (by rw [(show aa.eval (.tmp 9) = .slice A ms.length k from (hd 0 rfl)), (show aa.eval (.tmp 10) = .agg #[.int .i64 Wd, .int .i64 Ht, .slice B xs.length c] from (hd 1 rfl))]; exact got_ts hb.size (Orbit_ok Wd Ht A k ms B c xs _ (HRM.out.to (bel_then HB.out hb)) (by omega) (HRI.out.to (bel_then HB.out hb)) HV.out HG.out))) | 3, _, _ => exact aL (op_mv rfl (hd 2 rfl)) | 4, _, _ => exact aL (op_fst rfl (hd 3 rfl)) | 5, _, _ => exact aL (op_snd rfl (hd 3 rfl)) | qi + 6, h, _ => omega
 intro vs X1 hb hv hal hne; have HL0 := Hd.mk (HE.out.lt); have HBW := HB; replace HB := Hd.mk (bel_then HB.out hb); replace HE := Hd.mk (HE.out.to hb); obtain ⟨gT, kT, restT, tsT, e12, hmT, l12, b12, okT⟩ : (isTs W0.heap.size Wd Ht (orbL Wd Ht xs ms)).p (vs 12) X1 := hv 4 (by decide) rfl; replace HE : Hd (Env X1 [⟨w.heap.size, 43, [.int .i64 Wd, .int .i64 Ht, .slice B xs.length c]⟩, ⟨w.heap.size + 1, 43, [.int .i64 0, .int .i64 0, .slice none 0 0]⟩, ⟨gT, 43, tsT.flatMap (encT Wd Ht) ++ restT⟩]) := ⟨Env.addne (e := ⟨gT, 43, tsT.flatMap (encT Wd Ht) ++ restT⟩) HE.out b12 (fun e' he => Nat.ne_of_lt (Nat.lt_of_lt_of_le (HL0.out e' he) l12))⟩; have HMT := Hd.mk hmT; have OKT := Hd.mk okT; have G12 : Hd (w.heap.size ≤ gT) := ⟨Nat.le_trans HBW.out.size l12⟩; clear hmT okT l12 b12; have e13 : vs 13 = .int .i64 0 := hv 5 (by decide) rfl; simp only [PA, e12, e13]; clear hv hal hne hb HL0 HBW e12 e13; go_upto_region 2 with fail
 refine wp_region_vd 2 [14, 15] [0, 1] [] 63 [.int .i64 0, .int .i64 0] [qI 0, qF] (by rfl) alloc_Z ?_ ?_
 ·intro qi qh qA aa wx hb hs hd
  match qi, qh, qA with
  | 0, _, _ => exact aL (op_mv rfl (hs 7 rfl)) | 1, _, _ => exact aL (pure_b (bool_eq (by decide)) (⟨_, op_neqE rfl (hd 0 rfl) rfl, rfl⟩)) | qi + 2, h, _ => omega
 intro vs X2 hb hv hal hne; replace HB := Hd.mk (bel_then HB.out hb); replace HE := Hd.mk (HE.out.to hb); replace OKT := Hd.mk (OKT.out.to hb); have e15 : vs 15 = .bool false := hv 1 (by decide) rfl; simp only [PA, e15]; clear hv hal hne hb e15; obtain ⟨s0, hs0⟩ := ts_some HMT.out HNZ.out; have HS0 := Hd.mk hs0; have htl : 0 < tsT.length := (List.getElem?_eq_some_iff.1 hs0).1; clear hs0; go_upto_region 4 with fail
 refine wp_region_vd 3 [18, 19, 20] [0] [] 63 [.int .i64 0, .int .i64 0] [isV (.slice (some ⟨gT, 0, none⟩) tsT.length kT), isV (.pointer (some ⟨gT, 0 + 0 * 3, none⟩)), isV (.agg #[.int .i64 Wd, .int .i64 Ht, .slice s0.A s0.xs.length s0.k])] (by rfl) alloc_Z ?_ ?_
 ·intro qi qh qA aa wx hb hs hd
  match qi, qh, qA with
  | 0, _, _ => exact aL (op_mv rfl (hs 6 rfl)) | 1, _, _ => exact aL (op_run rfl (op_idxT (j := 0) htl rfl (hd 0 rfl) rfl _) rfl) | 2, _, _ => exact aL (op_ldvT rfl rfl (hd 1 rfl) (tcell_ld ((HE.out.to hb).get 2 rfl) HS0.out)) | qi + 3, h, _ => omega
 intro vs X3 hb hv hal hne; replace HB := Hd.mk (bel_then HB.out hb); replace HE := Hd.mk (HE.out.to hb); replace OKT := Hd.mk (OKT.out.to hb); have e20 : vs 20 = .agg #[.int .i64 Wd, .int .i64 Ht, .slice s0.A s0.xs.length s0.k] := hv 2 (by decide) rfl; simp only [PA, e20]; clear hv hal hne hb e20; refine wpList_st rfl rfl rfl rfl rfl (sto_T (HE.out.get 1 rfl)) ?_; have HE' : Env (putL X3 (w.heap.size + 1) 0 [.int .i64 Wd, .int .i64 Ht, .slice s0.A s0.xs.length s0.k]) [⟨w.heap.size, 43, [.int .i64 Wd, .int .i64 Ht, .slice B xs.length c]⟩, ⟨w.heap.size + 1, 43, [.int .i64 Wd, .int .i64 Ht, .slice s0.A s0.xs.length s0.k]⟩, ⟨gT, 43, tsT.flatMap (encT Wd Ht) ++ restT⟩] := HE.out.putF 1 rfl rfl; have HB' := putL_below (show w.heap.size ≤ w.heap.size + 1 from by omega) [.int .i64 Wd, .int .i64 Ht, .slice s0.A s0.xs.length s0.k] _ 0 HB.out; replace OKT := Hd.mk (OKT.out.putB (vs := [.int .i64 Wd, .int .i64 Ht, .slice s0.A s0.xs.length s0.k]) (o := 0) (HE.out.get 1 rfl)); generalize putL X3 (w.heap.size + 1) 0 [.int .i64 Wd, .int .i64 Ht, .slice s0.A s0.xs.length s0.k] = X4 at *; replace HE := Hd.mk HE'; replace HB := Hd.mk HB'; clear HE' HB'; go_wp2_with fail
 have k0a := HE.out.cell 1 0 rfl rfl; have k0b := HE.out.cell 1 1 rfl rfl; have k0c := HE.out.cell 1 2 rfl rfl; refine bodyPost_ret (v := .tuple #[.agg #[.int .i64 Wd, .int .i64 Ht, .slice s0.A s0.xs.length s0.k], .int .i64 0]) (by simp [results, Tryz.results21, go_sem, k0a, k0b, k0c]) rfl ?_; exact ⟨_, rfl, HB.out, _, _, rfl, ⟨s0, (ts_head HMT.out HS0.out).symm, rfl, OKT.out s0 (List.mem_of_getElem? HS0.out)⟩, rfl⟩
end Go.Proofs.YtddbmckbankmeaaGreat
set_option linter.unusedVariables false
set_option linter.unusedSimpArgs false
namespace Go.Proofs.YtddbmckbankmeaaGreat
section
variable {α β : Type}
theorem len_sub (D : DecidableEq α) : ∀ {l m : List α}, l.Nodup → (∀ x ∈ l, x ∈ m) → l.length ≤ m.length
 | [], m, _, _ => Nat.zero_le _
 | x :: l, m, hn, hs => by
  rw [List.nodup_cons] at hn; have hx : x ∈ m := hs x (by simp); have h := len_sub D (l := l) (m := m.erase x) hn.2 (fun y hy => (List.mem_erase_of_ne (fun e => hn.1 (by rw [← e]; exact hy))).2 (hs y (by simp [hy]))); rw [List.length_erase_of_mem hx] at h; have := List.length_pos_of_mem hx; rw [List.length_cons]; omega
theorem onto_of {l m : List α} (hn : l.Nodup) (hs : ∀ x ∈ l, x ∈ m) (hl : m.length ≤ l.length) : ∀ y ∈ m, y ∈ l := fun y hy => by
 refine Classical.byContradiction fun hc => ?_
 have := len_sub (fun a b => Classical.propDecidable _) (l := y :: l) (m := m) (List.nodup_cons.2 ⟨hc, hn⟩) (fun x hx => (List.mem_cons.1 hx).elim (fun e => by rw [e]; exact hy) (hs x)); rw [List.length_cons] at this; omega
theorem nodup_map {f : α → β} : ∀ {l : List α}, l.Nodup → (∀ x ∈ l, ∀ y ∈ l, f x = f y → x = y) → (l.map f).Nodup
 | [], _, _ => by simp
 | x :: l, hn, hi => by
  rw [List.nodup_cons] at hn; rw [List.map_cons, List.nodup_cons]; refine ⟨fun h => ?_, nodup_map hn.2 (fun a ha b hb => hi a (by simp [ha]) b (by simp [hb]))⟩; obtain ⟨y, hy, e⟩ := List.mem_map.1 h; have := hi y (by simp [hy]) x (by simp) e; exact hn.1 (by rw [← this]; exact hy)
theorem count_one (D : DecidableEq β) (a : β) : ∀ {Z : List β}, Z.Nodup → a ∈ Z → (Z.map fun z => if a = z then 1 else 0).sum = 1
 | [], _, h => by cases h
 | z :: Z, hn, h => by
  rw [List.nodup_cons] at hn; rw [List.map_cons, List.sum_cons]; by_cases e : a = z
  ·subst e
   have hz : (Z.map fun z => if a = z then 1 else 0).sum = 0 := by
    have : ∀ L : List β, a ∉ L → (L.map fun z => if a = z then 1 else 0).sum = 0 := by
     intro L
     induction L with
     | nil => intro _; rfl
     | cons y L ih =>
      intro hL; rw [List.mem_cons, not_or] at hL; rw [List.map_cons, List.sum_cons, if_neg hL.1, ih hL.2]
    exact this Z hn.1
   rw [if_pos rfl, hz]
  rw [if_neg e, count_one D a hn.2 ((List.mem_cons.1 h).resolve_left e)]
theorem sum_add (f g : β → Nat) (Z : List β) : (Z.map fun z => f z + g z).sum = (Z.map f).sum + (Z.map g).sum := by
 induction Z with
 | nil => rfl
 | cons z Z ih => rw [List.map_cons, List.map_cons, List.map_cons, List.sum_cons, List.sum_cons, List.sum_cons, ih]; omega
theorem sum_fibers (D : DecidableEq β) (f : α → β) {Z : List β} (hn : Z.Nodup) : ∀ (l : List α), (∀ x ∈ l, f x ∈ Z) → (Z.map fun z => (l.filter fun x => decide (f x = z)).length).sum = l.length
 | [], _ => by
  have : ∀ L : List β, (L.map fun _ => 0).sum = 0 := fun L => by induction L with
   | nil => rfl
   | cons y L ih => rw [List.map_cons, List.sum_cons, ih]
  simpa using this Z
 | x :: l, h => by
  have e : (Z.map fun z => ((x :: l).filter fun x => decide (f x = z)).length) = Z.map fun z => (if f x = z then 1 else 0) + (l.filter fun x => decide (f x = z)).length := by
   refine List.map_congr_left fun z _ => ?_
   rw [List.filter_cons]; by_cases e : f x = z
   ·rw [if_pos (by simpa using e), if_pos e, List.length_cons]; omega
   rw [if_neg (by simpa using e), if_neg e]; omega
  rw [e, sum_add, count_one D (f x) hn (h x (by simp)), sum_fibers D f hn l (fun y hy => h y (by simp [hy])), List.length_cons]; omega
theorem sum_const (c : Nat) {Z : List β} {f : β → Nat} (h : ∀ z ∈ Z, f z = c) : (Z.map f).sum = c * Z.length := by
 induction Z with
 | nil => simp
 | cons z Z ih => rw [List.map_cons, List.sum_cons, ih (fun y hy => h y (by simp [hy])), h z (by simp), List.length_cons, Nat.mul_add, Nat.mul_one]; omega
end
section
variable {W H : Int} {ms : List Mv} {m n : Mv} {xs : List Int}
theorem zero_aft (h : Al W H n) : aftM W H ⟨0, 0, 0, false⟩ n = n := by
 have hx := h.x; have hy := h.y; have ht := h.t; obtain ⟨x, y, t, f⟩ := n; simp only at hx hy ht; unfold aftM act; simp [trn, Int.emod_eq_of_lt hx.1 hx.2, Int.emod_eq_of_lt hy.1 hy.2, Int.emod_eq_of_lt ht.1 ht.2]
theorem aft_zero (h : Al W H m) : aftM W H m ⟨0, 0, 0, false⟩ = m := by
 have hx := h.x; have hy := h.y; have ht := h.t; obtain ⟨x, y, t, f⟩ := m; simp only at hx hy ht; unfold aftM act; simp only [trn_zero, Int.zero_add, Int.emod_eq_of_lt hx.1 hx.2, Int.emod_eq_of_lt hy.1 hy.2]; cases f
 ·simp [Int.emod_eq_of_lt ht.1 ht.2]
 simp; omega
structure Gp (W H : Int) (ms : List Mv) : Prop where
 al : ∀ m ∈ ms, Al W H m
 nd : ms.Nodup
 one : (⟨0, 0, 0, false⟩ : Mv) ∈ ms
 mul : ∀ m ∈ ms, ∀ n ∈ ms, aftM W H m n ∈ ms
theorem gp_of (hs : sizeB W H = true) (h : gB W H ms = true) : Gp W H ms := by
 obtain ⟨Wn, Hn, rfl, rfl, hs'⟩ := size_nat hs; obtain ⟨h1, h2, h3, h4⟩ := (gB_iff hs' ms).1 h; refine ⟨fun m hm => ?_, h2.imp (fun {a b} h e => by rw [e] at h; exact absurd h (Int.lt_irrefl _)), memB_iff.1 h3, fun m hm n hn => ?_⟩
 ·obtain ⟨i, hi, rfl⟩ := mem_nthM.1 hm; exact h1 i hi
 obtain ⟨i, hi, rfl⟩ := mem_nthM.1 hm; obtain ⟨j, hj, rfl⟩ := mem_nthM.1 hn; exact memB_iff.1 (h4 i j hi hj)
theorem aft_inj (h : Al W H m) {a b : Mv} (ha : Al W H a) (hb : Al W H b) (e : aftM W H m a = aftM W H m b) : a = b := by
 have h1 := congrArg (aftM W H (invM W H m)) e; rw [← aft_assoc (inv_al h) h ha, ← aft_assoc (inv_al h) h hb, inv_one h, zero_aft ha, zero_aft hb] at h1; exact h1
theorem Gp.inv (g : Gp W H ms) (hm : m ∈ ms) : invM W H m ∈ ms := by
 have hA := g.al m hm
 have h1 := onto_of (nodup_map g.nd (fun a ha b hb e => aft_inj hA (g.al a ha) (g.al b hb) e)) (fun x hx => by
  obtain ⟨y, hy, rfl⟩ := List.mem_map.1 hx
  exact g.mul m hm y hy) (by rw [List.length_map]; exact Nat.le_refl _) _ g.one
 obtain ⟨x, hx, e⟩ := List.mem_map.1 h1; have h2 := congrArg (aftM W H (invM W H m)) e; rw [← aft_assoc (inv_al hA) hA (g.al x hx), inv_one hA, zero_aft (g.al x hx), aft_zero (inv_al hA)] at h2; rw [← h2]; exact hx
theorem apM_zero (hW : 1 ≤ W) (hH : 1 ≤ H) (hl : (xs.length : Int) = W * H) (h : Al W H ⟨0, 0, 0, false⟩) : apM W H ⟨0, 0, 0, false⟩ xs = xs := by
 refine List.ext_getElem? fun i => ?_
 by_cases hi : i < xs.length
 ·have h1 := apM_at (xs := xs) h hl (j := (i : Int)) ⟨by omega, by omega⟩; rw [cell_zero hW hH ⟨by omega, by omega⟩] at h1; simp only [Int.toNat_natCast, List.getD_eq_getElem?_getD] at h1; have hi2 : i < (apM W H ⟨0, 0, 0, false⟩ xs).length := by rw [apM_length]; exact hi
  rw [List.getElem?_eq_getElem hi2, List.getElem?_eq_getElem hi] at h1 ⊢; rw [show (apM W H ⟨0, 0, 0, false⟩ xs)[i] = xs[i] from h1]
 rw [List.getElem?_eq_none (by rw [apM_length]; omega), List.getElem?_eq_none (by omega)]
theorem ap_back (h : Al W H m) (hW : 1 ≤ W) (hH : 1 ≤ H) (hl : (xs.length : Int) = W * H) : apM W H (invM W H m) (apM W H m xs) = xs := by
 have hz : Al W H ⟨0, 0, 0, false⟩ := by rw [← inv_one h]; exact aft_al (inv_al h) h
 rw [apM_comp (inv_al h) h hl, inv_one h, apM_zero hW hH hl hz]
theorem orbit_stab (g : Gp W H ms) (hv : validB W H xs = true) : (keepL W H xs ms).length * (orbL W H xs ms).length = ms.length := by
 have hl := valid_len hv; have hs := sizeB_bounds (valid_size hv); have hnd : (orbL W H xs ms).Nodup := (orb_rises W H xs ms).imp (fun {a b} h e => by rw [e, cmpL_refl] at h; omega); have h1 := sum_fibers (inferInstanceAs (DecidableEq (List Int))) (fun m => apM W H m xs) hnd ms (fun m hm => orb_mem.2 ⟨m, hm, rfl⟩); rw [← h1]; refine (sum_const _ fun z hz => ?_).symm; obtain ⟨m0, hm0, rfl⟩ := orb_mem.1 hz; have hA0 := g.al m0 hm0; unfold keepL; have D : DecidableEq Mv := fun a b => Classical.propDecidable _
 refine Nat.le_antisymm ?_ ?_
 ·have h2 := len_sub D (l := (ms.filter fun x => decide (apM W H x xs = apM W H m0 xs)).map (aftM W H (invM W H m0))) (m := ms.filter fun m => decide (apM W H m xs = xs)) (nodup_map (g.nd.filter _) (fun a ha b hb e => aft_inj (inv_al hA0) (g.al a (List.mem_filter.1 ha).1) (g.al b (List.mem_filter.1 hb).1) e)) (fun x hx => by
   obtain ⟨y, hy, rfl⟩ := List.mem_map.1 hx; have hy' := List.mem_filter.1 hy; refine List.mem_filter.2 ⟨g.mul _ (g.inv hm0) _ hy'.1, ?_⟩; have h3 : apM W H y xs = apM W H m0 xs := by simpa using hy'.2
   rw [decide_eq_true_eq, ← apM_comp (inv_al hA0) (g.al y hy'.1) hl, h3, ap_back hA0 hs.1.1 hs.2.1 hl])
  rw [List.length_map] at h2; exact h2
 have h2 := len_sub D (l := (ms.filter fun m => decide (apM W H m xs = xs)).map (aftM W H m0)) (m := ms.filter fun x => decide (apM W H x xs = apM W H m0 xs)) (nodup_map (g.nd.filter _) (fun a ha b hb e => aft_inj hA0 (g.al a (List.mem_filter.1 ha).1) (g.al b (List.mem_filter.1 hb).1) e)) (fun x hx => by
  obtain ⟨y, hy, rfl⟩ := List.mem_map.1 hx; have hy' := List.mem_filter.1 hy; refine List.mem_filter.2 ⟨g.mul _ hm0 _ hy'.1, ?_⟩; have h3 : apM W H y xs = xs := by simpa using hy'.2
  rw [decide_eq_true_eq, ← apM_comp hA0 (g.al y hy'.1) hl, h3])
 rw [List.length_map] at h2; exact h2
theorem orb_orb (g : Gp W H ms) (hv : validB W H xs = true) {z : List Int} (hz : z ∈ orbL W H xs ms) : orbL W H z ms = orbL W H xs ms := by
 have hl := valid_len hv; have hs := sizeB_bounds (valid_size hv); obtain ⟨m0, hm0, rfl⟩ := orb_mem.1 hz; have hA0 := g.al m0 hm0; have hl2 : ((apM W H m0 xs).length : Int) = W * H := by rw [apM_length]; exact hl
 refine rises_eq (orb_rises _ _ _ _) (orb_rises _ _ _ _) fun y => ?_
 rw [orb_mem, orb_mem]; constructor
 ·rintro ⟨m, hm, rfl⟩; exact ⟨aftM W H m m0, g.mul m hm m0 hm0, (apM_comp (g.al m hm) hA0 hl).symm⟩
 rintro ⟨m, hm, rfl⟩; refine ⟨aftM W H m (invM W H m0), g.mul m hm _ (g.inv hm0), ?_⟩; rw [← apM_comp (g.al m hm) (inv_al hA0) hl2, ap_back hA0 hs.1.1 hs.2.1 hl]
theorem orb_least (g : Gp W H ms) (hv : validB W H xs = true) {z : List Int} (hz : z ∈ orbL W H xs ms) : leastL W H z ms = leastL W H xs ms := by
 unfold leastL; rw [orb_orb g hv hz]
end
def addM (n : Mv) (o : List Mv) : List Mv := if memB n o = true then o else o ++ [n]
def innB (W H : Int) (x : Mv) (l o : List Mv) : List Mv := l.foldl (fun o m => addM (aftM W H m x) o) o
inductive Bfs (W H : Int) (l : List Mv) : Nat → List Mv → Prop
 | start : Bfs W H l 0 [⟨0, 0, 0, false⟩]
 | step {i : Nat} {o : List Mv} {x : Mv} : Bfs W H l i o → o[i]? = some x → Bfs W H l (i + 1) (innB W H x l o)
section
variable {W H : Int} {l o o' : List Mv} {x m n : Mv} {i j : Nat}
theorem inn_zero : innB W H x (l.take 0) o = o := by rw [List.take_zero]; rfl
theorem inn_succ (hm : l[j]? = some m) : innB W H x (l.take (j + 1)) o = addM (aftM W H m x) (innB W H x (l.take j) o) := by
 unfold innB; rw [List.take_add_one, hm, List.foldl_append]; rfl
theorem add_yes (h : memB n o = false) : addM n o = o ++ [n] := by unfold addM; rw [h]; rfl
theorem add_no (h : memB n o = true) : addM n o = o := by unfold addM; rw [if_pos h]
theorem add_pre (n : Mv) (o : List Mv) : o <+: addM n o := by
 unfold addM; split
 ·exact List.prefix_refl _
 exact List.prefix_append _ _
theorem inn_pre (x : Mv) : ∀ (l o : List Mv), o <+: innB W H x l o
 | [], o => List.prefix_refl _
 | m :: l, o => (add_pre (aftM W H m x) o).trans (inn_pre x l _)
structure OkC (W H : Int) (o : List Mv) : Prop where
 nd : o.Nodup
 al : ∀ m ∈ o, Al W H m
 ne : 0 < o.length
theorem OkC.add (h : OkC W H o) (hn : Al W H n) : OkC W H (addM n o) := by
 unfold addM; split
 ·exact h
 next hm =>
 have hm' : n ∉ o := fun e => hm (memB_iff.2 e)
 refine ⟨List.nodup_append.2 ⟨h.nd, by simp, fun a ha b hb => ?_⟩, fun m hm => ?_, by simp⟩
 ·rw [List.mem_singleton.1 hb]; exact fun e => hm' (e ▸ ha)
 rcases List.mem_append.1 hm with h1 | h1
 ·exact h.al m h1
 rw [List.mem_singleton.1 h1]; exact hn
theorem OkC.inn (hx : Al W H x) : ∀ {l o : List Mv}, (∀ m ∈ l, Al W H m) → OkC W H o → OkC W H (innB W H x l o)
 | [], o, _, h => h
 | m :: l, o, hl, h => OkC.inn (l := l) (o := addM (aftM W H m x) o) hx (fun m hm => hl m (by simp [hm])) (h.add (aft_al (hl m (by simp)) hx))
theorem OkC.take (h : OkC W H o) (hx : Al W H x) (hl : ∀ m ∈ l, Al W H m) (j : Nat) : OkC W H (innB W H x (l.take j) o) := OkC.inn hx (fun m hm => hl m (List.mem_of_mem_take hm)) h
theorem Bfs.ok (h0 : Al W H ⟨0, 0, 0, false⟩) (hl : ∀ m ∈ l, Al W H m) (h : Bfs W H l i o) : OkC W H o := by
 induction h with
 | start => exact ⟨by simp, fun m hm => by rw [List.mem_singleton.1 hm]; exact h0, by simp⟩ | step _ hx ih => exact OkC.inn (ih.al _ (List.mem_of_getElem? hx)) hl ih
theorem Bfs.le (h : Bfs W H l i o) : i ≤ o.length := by
 induction h with
 | start => simp
 | step h hx ih =>
  have h1 := (List.getElem?_eq_some_iff.1 hx).1; rename_i i o x
  exact Nat.le_trans h1 (inn_pre (W := W) (H := H) x l o).length_le
theorem Bfs.uniq (h : Bfs W H l i o) : ∀ {o' : List Mv}, Bfs W H l i o' → o = o' := by
 induction h with
 | start => intro o' h'; cases h'; rfl
 | step h hx ih =>
  intro o' h'
  cases h' with
  | step k hy =>
   obtain rfl := ih k; rw [hx] at hy; cases hy
   rfl
theorem Bfs.back (h : Bfs W H l i o) : ∀ j, j < i → ∃ o', Bfs W H l j o' ∧ j < o'.length := by
 induction h with
 | start => intro j hj; omega
 | step h hx ih =>
  rename_i i o x
  intro j hj; by_cases e : j = i
  ·subst e; exact ⟨o, h, (List.getElem?_eq_some_iff.1 hx).1⟩
  exact ih j (by omega)
theorem Bfs.end_ (h : Bfs W H l i o) (hi : o.length = i) (k : Bfs W H l j o') (hj : o'.length = j) : o = o' := by
 rcases Nat.lt_trichotomy i j with e | e | e
 ·obtain ⟨p, hp, hlt⟩ := k.back i e; rw [← h.uniq hp] at hlt; omega
 ·subst e; exact h.uniq k
 obtain ⟨p, hp, hlt⟩ := h.back j e; rw [← k.uniq hp] at hlt; omega
end
section
variable {W H : Nat} {o o' : List Mv}
theorem OkC.few (hs : sizeB W H = true) (h : OkC W H o) : o.length ≤ 512 := by
 have hb := sizeB_bounds hs; have D : DecidableEq Mv := fun a b => Classical.propDecidable _
 exact Nat.le_trans (len_sub D h.nd fun x hx => (mem_moves hs x).2 (h.al x hx)) (moves_len (by omega) (by omega))
theorem nd_rises {l : List Mv} (hp : l.Pairwise (fun a b => ordM a b ≤ 0)) (hn : l.Nodup) (hz : ∀ a ∈ l, ∀ b ∈ l, ordM a b = 0 → a = b) : l.Pairwise OR := by
 induction l with
 | nil => exact List.Pairwise.nil
 | cons a l ih =>
  rw [List.pairwise_cons] at hp ⊢; rw [List.nodup_cons] at hn; refine ⟨fun b hb => ?_, ih hp.2 hn.2 fun x hx y hy => hz x (by simp [hx]) y (by simp [hy])⟩; have h1 := hp.1 b hb; unfold OR; rcases Int.lt_or_eq_of_le h1 with h2 | h2
  ·exact h2
  exact absurd (hz a (by simp) b (by simp [hb]) h2) (fun e => hn.1 (e ▸ hb))
theorem sorted_moves (hs : sizeB W H = true) (h : OkC W H o) (hp : o'.Perm o) (hr : o'.Pairwise (fun a b => ordM a b ≤ 0)) : o' = (mvs1 W H 2).filter fun x => memB x o := by
 have hmem : ∀ x, x ∈ o' ↔ x ∈ o := fun x => hp.mem_iff
 have h1 : o'.Pairwise OR := nd_rises hr (hp.nodup_iff.2 h.nd) fun a _ b _ e => ord_zero e
 have h2 : o'.Pairwise (fun a b => numM W H a < numM W H b) := List.Pairwise.imp_of_mem (fun {a b} ha hb k => (ord_num (h.al a ((hmem a).1 ha)) (h.al b ((hmem b).1 hb))).1 k) h1; refine rising_eq (numM W H) _ _ h2 ((rise_num hs).filter _) fun x => ?_
 rw [List.mem_filter, hmem]; exact ⟨fun hx => ⟨(mem_moves hs x).2 (h.al x hx), memB_iff.2 hx⟩, fun ⟨_, hx⟩ => memB_iff.1 hx⟩
end
end Go.Proofs.YtddbmckbankmeaaGreat
set_option linter.unusedVariables false
set_option linter.unusedSimpArgs false
namespace Go.Proofs.YtddbmckbankmeaaGreat
open Go.RowKit
section
variable {w : World} {A B : Option Addr} {k c lo lo' n : Nat} {ms : List Mv} {Wd Ht : Int} {xs : List Int} {f : Nat} {vs : Array Value} {q : SP}
theorem got_ss (h : lo ≤ lo') (hc : Calls Tryz.prog f vs w (Got w (isSs lo' ms).p)) : Calls Tryz.prog f vs w (Got w (isSs lo ms).p) := hc.mono fun e w' ⟨v, h1, h2, h3⟩ => ⟨v, h1, h2, ownS_low h h3⟩
theorem moves_all (hrm : RdM w A ms) (hln : ms.length ≤ 521) : Calls Tryz.prog 6 #[.slice A ms.length k] w (Got w (isSs w.heap.size ms).p) := by
 have h := moves_got A k ms w hrm (by omega); rwa [List.take_of_length_le hln] at h
theorem rd_ok {W H : Int} {s : Sl} {ys : List Int} (h : s.ok w) (e : s.xs = ys) : (rdS W H ys).p (.agg #[.int .i64 W, .int .i64 H, .slice s.A s.xs.length s.k]) w := by
 subst e; exact ⟨s.A, s.k, rfl, h.1.1⟩
end
theorem gp_few {W H : Int} {ms : List Mv} (hs : sizeB W H = true) (h : gB W H ms = true) : ms.length ≤ 512 := by
 obtain ⟨Wn, Hn, rfl, rfl, hs'⟩ := size_nat hs; have hb := sizeB_bounds hs'; rw [gB_list hs' h]; exact Nat.le_trans (List.length_filter_le _ _) (moves_len (by omega) (by omega))
theorem least_mem {W H : Int} {xs : List Int} {ms : List Mv} (h : 0 < ms.length) : leastL W H xs ms ∈ orbL W H xs ms := by
 have h2 : apM W H ms[0] xs ∈ orbL W H xs ms := orb_mem.2 ⟨_, List.getElem_mem _, rfl⟩; unfold leastL
 cases ho : orbL W H xs ms with
 | nil => rw [ho] at h2; cases h2
 | cons a l => simp
theorem least_short {W H : Int} {xs : List Int} {ms : List Mv} (h : 0 < ms.length) (hs : xs.length ≤ 64) : (leastL W H xs ms).length ≤ 1000000 := by
 obtain ⟨m, _, e⟩ := orb_mem.1 (least_mem (W := W) (H := H) (xs := xs) h); rw [← e, apM_length]; omega
section
variable {Q : Exit → Act → World → Prop} {o : Oper} {a : Act} {w : World} {d f : Nat} {R : Value → World → Prop} {x1 y x : Operand} {ts : Array TypeId} {cb : Array Value}
theorem op_callb1 (hy : a.eval y = .func (.func f) #[] cb) (ho : o.op = .call { callee := .value y, args := #[x1], argTypes := ts }) (hd : o.dst = some d)
  (hcf : ∀ args w, (callFunc f args).run Tryz.prog w = .ok (.enter f args) w) (hc : Calls Tryz.prog f (#[a.eval x1] ++ cb) w (Got w R)) : o.wp Tryz.prog a w (Post a w d R) Q := by
 have key : execOp a.eval o = callFunc f (#[] ++ #[x1].map a.eval ++ cb) := by
  obtain ⟨dst, op, type, pos, after, guard⟩ := o; simp only at ho; subst ho; unfold execOp; simp only [resolve, hy]; rfl
 unfold Oper.wp; rw [key, hcf]; simp only [Oper.upon, Array.empty_append, hd, List.map_toArray, List.map_cons, List.map_nil]; refine hc.mono ?_; rintro e w' ⟨v, rfl, hb, hr⟩; exact ⟨v, rfl, hb, hr⟩
def isIx (b : Bool) : SP := ⟨fun v w => ∃ r : Int, v = .int .i64 r ∧ decide (0 ≤ r) = b, fun v w w' h _ => h⟩
theorem op_geqX {b : Bool} (ho : o.op = .binOp .geq 3 x (.const (.int .i64 0)) 3) (hd : o.dst = some d) (hx : (isIx b).p (a.eval x) w) : o.wp Tryz.prog a w (Post a w d (isV (.bool b)).p) Q := by
 obtain ⟨r, e, h⟩ := hx; subst h; refine op_run (v := .bool (decide (0 ≤ r))) hd ?_ rfl; have hc : a.eval (.const (.int .i64 0)) = .int .i64 0 := rfl; generalize a.eval = ev at e hc ⊢; unfold execOp; simp only [ho]; simp [go_sem, e, hc]
end
def Preds (f : Nat) (cb : Array Value) (ms : List Mv) (q : Mv → Bool) (w : World) : Prop := ∀ m ∈ ms, ∀ wx, Below w.heap.size w wx → Calls Tryz.prog f (#[.agg #[.int .i64 m.x, .int .i64 m.y, .int .i64 m.t, .bool m.f]] ++ cb) wx (Got wx (isV (.bool (q m))).p)
theorem any_at {ms : List Mv} {q : Mv → Bool} {m : Mv} {j : Nat} (hm : ms[j]? = some m) (h : q m = true) : ms.any q = true := List.any_eq_true.2 ⟨m, List.mem_of_getElem? hm, h⟩
theorem any_no {ms : List Mv} {q : Mv → Bool} (h : ∀ (r : Nat) (m : Mv), r < ms.length → ms[r]? = some m → q m = false) : ms.any q = false := by
 rw [Bool.eq_false_iff]; intro ha; obtain ⟨m, hm, hq⟩ := List.any_eq_true.1 ha; obtain ⟨r, hr, e⟩ := List.mem_iff_getElem.1 hm; have := h r m hr (by rw [List.getElem?_eq_getElem hr, e]); rw [hq] at this; cases this
set_option maxRecDepth 100000 in
set_option maxHeartbeats 1000000 in
theorem idxM_got (f : Nat) (cb : Array Value) (q : Mv → Bool) (A : Option Addr) (k : Nat) (ms : List Mv) (w : World) (hen : ∀ args w, (callFunc f args).run Tryz.prog w = .ok (.enter f args) w) (hrm : RdM w A ms) (hln : ms.length ≤ 100000) (hp : Preds f cb ms q w) :
  Calls Tryz.prog 68 #[.slice A ms.length k, .func (.func f) #[] cb] w (Got w (isIx (ms.any q)).p) := by
 have HRM := Hd.mk hrm; have HEN := Hd.mk hen; have HP := Hd.mk hp; clear hrm hen hp; go_enter Tryz.func68, Tryz.ntmps68
 go_upto_region 1 with fail
 have HE : Hd (Env w []) := ⟨trivial⟩; have HB : Hd (Below w.heap.size w w) := ⟨Below.refl _ _⟩; refine wp_region_vd 3 [6, 7, 8] [0, 2] [] 63 [.int .i64 0, .int .i64 0] [isV (.slice A ms.length k), qI ((ms.length : Nat) : Int), qI 0] (by rfl) alloc_Z ?_ ?_
 ·intro qi qh qA aa wx hb hs hd
  match qi, qh, qA with
  | 0, _, _ => exact aL (op_mv rfl (hs 0 rfl)) | 1, _, _ => exact aL (op_lenvVM rfl rfl (hd 0 rfl)) | 2, _, _ => exact aL (op_mv rfl rfl) | qi + 3, h, _ => omega
 intro vs X1 hb hv hal hne; replace HB := Hd.mk (bel_then HB.out hb); replace HE := Hd.mk (HE.out.to hb); have e6 : vs 6 = .slice A ms.length k := hv 0 (by decide) rfl; have e7 : vs 7 = .int .i64 (((ms.length : Nat) : Int)) := hv 1 (by decide) rfl; have e8 : vs 8 = .int .i64 0 := hv 2 (by decide) rfl; simp only [PA, e6, e7, e8]; clear hv hal hne hb e6 e7 e8; go_wp2_with fail
 go_loopw [8] (fun s8 wr => ∃ j : Nat, j ≤ ms.length ∧ s8 = .int .i64 j ∧ (∀ (r : Nat) (m : Mv), r < j → ms[r]? = some m → q m = false) ∧ Below w.heap.size w wr) (fun s8 _ => ms.length - (intOf s8).toNat)
 case atStart => exact ⟨0, Nat.zero_le _, rfl, (fun r m hr => by omega), HB.out⟩
 case round =>
  obtain ⟨j, hjl, rfl, hz, hb⟩ := hrel; clear HB HE; have HB := Hd.mk hb; have HZ := Hd.mk hz; have HE : Hd (Env wr []) := ⟨trivial⟩; clear hb hz; by_cases hj : j < ms.length
  ·obtain ⟨m, hm⟩ : ∃ m, ms[j]? = some m := ⟨_, List.getElem?_eq_getElem hj⟩; obtain ⟨ad, rfl⟩ := HRM.out.some_ hm; have HM := Hd.mk hm; clear hm; go_upto_region 3 with fail
   refine wp_region_vd 1 [10] [0] [] 63 [.int .i64 0, .int .i64 0] [qI ((j : Nat) : Int)] (by rfl) alloc_Z ?_ ?_
   ·intro qi qh qA aa wx hb hs hd
    match qi, qh, qA with
    | 0, _, _ => exact aL (op_mv rfl (hs 8 rfl)) | qi + 1, h, _ => omega
   intro vs X1 hb hv hal hne; replace HB := Hd.mk (bel_then HB.out hb); replace HE := Hd.mk (HE.out.to hb); have e10 : vs 10 = .int .i64 (((j : Nat) : Int)) := hv 0 (by decide) rfl; simp only [PA, e10]; clear hv hal hne hb e10; by_cases hq : q m = true
   ·have HQ := Hd.mk hq; clear hq; go_upto_region 4 with fail
    refine wp_region_vd 6 [11, 12, 13, 14, 15, 16] [0, 1, 2] [] 63 [.int .i64 0, .int .i64 0] [isV (.func (.func f) #[] cb), isV (.slice (some ad) ms.length k), qI ((j : Nat) : Int), isV (.pointer (some (ad.add (j * 4)))), isV (.agg #[.int .i64 m.x, .int .i64 m.y, .int .i64 m.t, .bool m.f]), qT] (by rfl) alloc_Z ?_ ?_
    ·intro qi qh qA aa wx hb hs hd
     match qi, qh, qA with
     | 0, _, _ => exact aL (op_mv rfl (hs 1 rfl)) | 1, _, _ => exact aL (op_mv rfl (hs 0 rfl)) | 2, _, _ => exact aL (op_mv rfl (hs 5 rfl)) | 3, _, _ => exact aL (op_run rfl (op_idxVM hj rfl (hd 1 rfl) (hd 2 rfl) _) rfl) | 4, _, _ => exact aL (op_ldvVM rfl rfl (hd 3 rfl) ((HRM.out.to (bel_then HB.out hb)).at_ HM.out)) | 5, _, _ => exact aL (op_callb1 (hd 0 rfl) rfl rfl HEN.out (by rw [show aa.eval (.tmp 15) = .agg #[.int .i64 m.x, .int .i64 m.y, .int .i64 m.t, .bool m.f] from hd 4 rfl]; have h := HP.out m (List.mem_of_getElem? HM.out) wx (bel_then HB.out hb); rw [HQ.out] at h; exact h)) | qi + 6, h, _ => omega
    intro vs X2 hb hv hal hne; replace HB := Hd.mk (bel_then HB.out hb); replace HE := Hd.mk (HE.out.to hb); have e16 : vs 16 = .bool true := hv 5 (by decide) rfl; simp only [PA, e16]; clear hv hal hne hb e16; go_wp2_with fail
    go_ret
    exact ⟨_, rfl, HB.out, ((j : Nat) : Int), rfl, by rw [any_at HM.out HQ.out]; exact decide_eq_true (by omega)⟩
   have HQ : Hd (q m = false) := ⟨by simpa using hq⟩; clear hq; go_upto_region 4 with fail
   refine wp_region_vd 6 [11, 12, 13, 14, 15, 16] [0, 1, 2] [] 63 [.int .i64 0, .int .i64 0] [isV (.func (.func f) #[] cb), isV (.slice (some ad) ms.length k), qI ((j : Nat) : Int), isV (.pointer (some (ad.add (j * 4)))), isV (.agg #[.int .i64 m.x, .int .i64 m.y, .int .i64 m.t, .bool m.f]), qF] (by rfl) alloc_Z ?_ ?_
   ·intro qi qh qA aa wx hb hs hd
    match qi, qh, qA with
    | 0, _, _ => exact aL (op_mv rfl (hs 1 rfl)) | 1, _, _ => exact aL (op_mv rfl (hs 0 rfl)) | 2, _, _ => exact aL (op_mv rfl (hs 5 rfl)) | 3, _, _ => exact aL (op_run rfl (op_idxVM hj rfl (hd 1 rfl) (hd 2 rfl) _) rfl) | 4, _, _ => exact aL (op_ldvVM rfl rfl (hd 3 rfl) ((HRM.out.to (bel_then HB.out hb)).at_ HM.out)) | 5, _, _ => exact aL (op_callb1 (hd 0 rfl) rfl rfl HEN.out (by rw [show aa.eval (.tmp 15) = .agg #[.int .i64 m.x, .int .i64 m.y, .int .i64 m.t, .bool m.f] from hd 4 rfl]; have h := HP.out m (List.mem_of_getElem? HM.out) wx (bel_then HB.out hb); rw [HQ.out] at h; exact h)) | qi + 6, h, _ => omega
   intro vs X2 hb hv hal hne; replace HB := Hd.mk (bel_then HB.out hb); replace HE := Hd.mk (HE.out.to hb); have e16 : vs 16 = .bool false := hv 5 (by decide) rfl; simp only [PA, e16]; clear hv hal hne hb e16; go_wp2_with fail
   go_roundw
   case rel => exact ⟨j + 1, by omega, by go_num, (fun r m' hr hm' => by
    by_cases e : r = j
    ·rw [e, HM.out] at hm'; rw [← Option.some.inj hm']; exact HQ.out
    exact HZ.out r m' (by omega) hm'), HB.out⟩
   case measure => simp [intOf]; omega
  have e1 : j = ms.length := by omega
  have HA : Hd (ms.any q = false) := ⟨any_no (by rw [← e1]; exact HZ.out)⟩; clear e1; go_wp2_with fail
  go_ret
  exact ⟨_, rfl, HB.out, -1, rfl, by rw [HA.out]; rfl⟩
set_option maxRecDepth 100000 in
set_option maxHeartbeats 1000000 in
theorem contM_got (f : Nat) (cb : Array Value) (q : Mv → Bool) (A : Option Addr) (k : Nat) (ms : List Mv) (w : World) (hen : ∀ args w, (callFunc f args).run Tryz.prog w = .ok (.enter f args) w) (hrm : RdM w A ms) (hln : ms.length ≤ 100000) (hp : Preds f cb ms q w) :
  Calls Tryz.prog 30 #[.slice A ms.length k, .func (.func f) #[] cb] w (Got w (isV (.bool (ms.any q))).p) := by
 have HRM := Hd.mk hrm; have HEN := Hd.mk hen; have HP := Hd.mk hp; clear hrm hen hp; go_enter Tryz.func30, Tryz.ntmps30
 go_upto_region 1 with fail
 have HE : Hd (Env w []) := ⟨trivial⟩; have HB : Hd (Below w.heap.size w w) := ⟨Below.refl _ _⟩; refine wp_region_vd 4 [5, 6, 7, 8] [0, 1] [] 63 [.int .i64 0, .int .i64 0] [isV (.slice A ms.length k), isV (.func (.func f) #[] cb), isIx (ms.any q), isV (.bool (ms.any q))] (by rfl) alloc_Z ?_ ?_
 ·intro qi qh qA aa wx hb hs hd
  match qi, qh, qA with
  | 0, _, _ => exact aL (op_mv rfl (hs 0 rfl)) | 1, _, _ => exact aL (op_mv rfl (hs 1 rfl)) | 2, _, _ => exact aL (op_call2 rfl rfl Tryz.call68 (by rw [show aa.eval (.tmp 5) = .slice A ms.length k from hd 0 rfl, show aa.eval (.tmp 6) = .func (.func f) #[] cb from hd 1 rfl]; exact idxM_got f cb q A k ms _ HEN.out (HRM.out.to (bel_then HB.out hb)) hln (fun m hm wx hx => HP.out m hm wx (below_then (bel_then HB.out hb) (bel_then HB.out hb).size hx)))) | 3, _, _ => exact aL (op_geqX rfl rfl (hd 2 rfl)) | qi + 4, h, _ => omega
 intro vs X1 hb hv hal hne; replace HB := Hd.mk (bel_then HB.out hb); replace HE := Hd.mk (HE.out.to hb); have e8 : vs 8 = .bool (ms.any q) := hv 3 (by decide) rfl; simp only [PA, e8]; clear hv hal hne hb e8; go_wp2_with fail
 go_ret
 exact ⟨_, rfl, HB.out, rfl⟩
end Go.Proofs.YtddbmckbankmeaaGreat
