/- Part 21 of the texts behind this claim. -/
import Derived.Test.YtddbmckbankmeaaKo17
import Derived.Test.YtddbmckbankmeaaKo20
set_option linter.unusedVariables false
set_option linter.unusedSimpArgs false
namespace Go.Proofs.Ytddbmckbankmeaa
open Go.RowKit
set_option maxRecDepth 100000 in
set_option maxHeartbeats 1000000 in
theorem Orbit_ok (Wd Ht : Int) (A : Option Addr) (k : Nat) (ms : List Mv) (B : Option Addr) (c : Nat) (xs : List Int) (w : World) (hrm : RdM w A ms) (hln : ms.length ≤ 100000) (hri : RI w B xs) (hv : validB Wd Ht xs = true) (hg : gB Wd Ht ms = true) :
    Calls Try.prog 44 #[.slice A ms.length k, .agg #[.int .i64 Wd, .int .i64 Ht, .slice B xs.length c]] w (Got w (isP (isTs w.heap.size Wd Ht (orbL Wd Ht xs ms)) (isV (.int .i64 0))).p) := by
  have HRM := Hd.mk hrm
  have HV := Hd.mk hv
  have HG := Hd.mk hg
  have HS := Hd.mk (valid_size hv)
  have HVL := Hd.mk (valid_len hv)
  have hsh := valid_short hv
  obtain ⟨bd, rfl⟩ := valid_some hri hv
  have HRI := Hd.mk hri
  have HALL : Hd (∀ i, i < ms.length → Al Wd Ht (nthM ms i)) := ⟨group_all hg (valid_size hv)⟩
  have HNZ := Hd.mk (group_nz hg (valid_size hv))
  clear hrm hri hv hg
  go_enter Try.func44, Try.ntmps44
  go_upto_region 1 with fail
  obtain ⟨W0, hW0⟩ : ∃ W : World, W = w.alloc (.cells #[.int .i64 Wd, .int .i64 Ht, .slice (some bd) xs.length c] 27) := ⟨_, rfl⟩
  rw [← hW0]
  obtain ⟨he, hb⟩ := env_one hW0
  have HE := Hd.mk he
  have HB := Hd.mk hb
  clear he hb hW0
  refine wp_region_vd 10 [9, 10, 11, 12, 13, 14, 15, 16, 17, 18] [2, 3, 6, 8, 9] [] 84 [.int .i64 0, .int .i64 0] [isV (.agg #[.int .i64 Wd, .int .i64 Ht, .slice (some bd) xs.length c]), isV (.bool true), isV (.bool false), isV (.bool false), isV (.agg #[.int .i64 Wd, .int .i64 Ht, .slice (some bd) xs.length c]), isV (.agg #[.int .i64 Wd, .int .i64 Ht]), isV (.slice A ms.length k), isV (.bool true), isV (.bool false), isV (.bool false)] (by rfl) alloc_Z ?_ ?_
  · intro qi qh qA aa wx hb hs hd
    match qi, qh, qA with
    | 0, _, _ => exact .inl ⟨rfl, op_ldT rfl rfl (hs 3 rfl) ((HE.out.to hb).get 0 rfl)⟩
    | 1, _, _ => exact .inl ⟨rfl, wp_b (bool_eq HV.out) (op_call1 rfl rfl Try.call16 (by rw [(show aa.eval (.tmp 9) = .agg #[.int .i64 Wd, .int .i64 Ht, .slice (some bd) xs.length c] from (hd 0 rfl))]; exact Valid_got Wd Ht (some bd) c xs _ (HRI.out.to (bel_then HB.out hb))))⟩
    | 2, _, _ => exact .inl ⟨rfl, ⟨_, op_not rfl (hd 1 rfl), rfl⟩⟩
    | 3, _, _ => exact .inl ⟨rfl, op_mv rfl (hd 2 rfl)⟩
    | 4, _, _ => exact .inl ⟨⟨rfl, .inl (hd 3 rfl)⟩, op_ldT rfl rfl (hs 3 rfl) ((HE.out.to hb).get 0 rfl)⟩
    | 5, _, _ => exact .inl ⟨⟨rfl, .inl (hd 3 rfl)⟩, op_call1 rfl rfl Try.call50 (by rw [(show aa.eval (.tmp 13) = .agg #[.int .i64 Wd, .int .i64 Ht, .slice (some bd) xs.length c] from (hd 4 rfl))]; exact size_got Wd Ht (some bd) xs.length c _)⟩
    | 6, _, _ => exact .inl ⟨⟨rfl, .inl (hd 3 rfl)⟩, op_mv rfl (hs 0 rfl)⟩
    | 7, _, _ => exact .inl ⟨⟨rfl, .inl (hd 3 rfl)⟩, wp_b (bool_eq HG.out) (op_call2 rfl rfl Try.call63 (by rw [(show aa.eval (.tmp 14) = .agg #[.int .i64 Wd, .int .i64 Ht] from (hd 5 rfl)), (show aa.eval (.tmp 15) = .slice A ms.length k from (hd 6 rfl))]; exact group_got Wd Ht A k ms _ (HRM.out.to (bel_then HB.out hb)) (by omega) HS.out))⟩
    | 8, _, _ => exact .inl ⟨⟨rfl, .inl (hd 3 rfl)⟩, ⟨_, op_not rfl (hd 7 rfl), rfl⟩⟩
    | 9, _, _ => exact .inl ⟨rfl, ⟨_, op_pickF rfl (hd 3 rfl) (hd 8 rfl), rfl⟩⟩
    | qi + 10, h, _ => omega
  intro vs X1 hb hv hal hne
  replace HB := Hd.mk (bel_then HB.out hb)
  replace HE := Hd.mk (HE.out.to hb)
  have e18 : vs 18 = .bool false := hv 9 (by decide) rfl
  simp only [PA, e18]
  clear hv hal hne hb e18
  go_upto_region 3 with fail
  refine wp_region_vd 0 [] [] [] 84 [.int .i64 0, .int .i64 0] [] (by rfl) alloc_Z ?_ ?_
  · intro qi qh qA aa wx hb hs hd
    match qi, qh, qA with
    | qi + 0, h, _ => omega
  intro vs X2 hb hv hal hne
  replace HB := Hd.mk (bel_then HB.out hb)
  replace HE := Hd.mk (HE.out.to hb)
  simp only [PA]
  clear hv hal hne hb
  go_upto_region 4 with fail
  refine wp_region_vd 3 [19, 20, 21] [0, 2] [] 84 [.int .i64 0, .int .i64 0] [isV (.slice A ms.length k), isV (.int .i64 (((ms.length : Nat) : Int))), isV (.int .i64 0)] (by rfl) alloc_Z ?_ ?_
  · intro qi qh qA aa wx hb hs hd
    match qi, qh, qA with
    | 0, _, _ => exact .inl ⟨rfl, op_mv rfl (hs 0 rfl)⟩
    | 1, _, _ => exact .inl ⟨rfl, op_lenvVM rfl rfl (hd 0 rfl)⟩
    | 2, _, _ => exact .inl ⟨rfl, op_mv rfl rfl⟩
    | qi + 3, h, _ => omega
  intro vs X3 hb hv hal hne
  replace HB := Hd.mk (bel_then HB.out hb)
  replace HE := Hd.mk (HE.out.to hb)
  have e19 : vs 19 = .slice A ms.length k := hv 0 (by decide) rfl
  have e20 : vs 20 = .int .i64 (((ms.length : Nat) : Int)) := hv 1 (by decide) rfl
  have e21 : vs 21 = .int .i64 0 := hv 2 (by decide) rfl
  simp only [PA, e19, e20, e21]
  clear hv hal hne hb e19 e20 e21
  have HO : Hd (OwnT (w.heap.size + 1) X3 (.slice none 0 0) Wd Ht []) := ⟨World.ownsRow_nil _ _ _ _⟩
  go_wp2_with fail
  go_loopw [6, 21] (fun s6 s21 wr => ∃ (j : Nat) (ts : List Sl), j ≤ ms.length ∧ s21 = .int .i64 j ∧ ts.map Sl.xs = (ms.take j).map (fun m => apM Wd Ht m xs) ∧ OkT wr ts ∧ OwnT (w.heap.size + 1) wr s6 Wd Ht ts ∧ Env wr [⟨w.heap.size, 27, [.int .i64 Wd, .int .i64 Ht, .slice (some bd) xs.length c]⟩] ∧ Below w.heap.size w wr) (fun _ s21 _ => ms.length - (intOf s21).toNat)
  case atStart => exact ⟨0, [], Nat.zero_le _, rfl, rfl, (fun s hs => by cases hs), HO.out, HE.out, HB.out⟩
  case round =>
    obtain ⟨j, ts, hjl, rfl, hmp, hok, ho, he, hb⟩ := hrel
    clear HB HE HO
    have HB := Hd.mk hb
    have HO := Hd.mk ho
    have HM := Hd.mk hok
    have HMP := Hd.mk hmp
    have HE : Hd (Env wr [⟨w.heap.size, 27, [.int .i64 Wd, .int .i64 Ht, .slice (some bd) xs.length c]⟩]) := ⟨he⟩
    have HTL : Hd (ts.length = j) := ⟨by have := congrArg List.length hmp; rw [List.length_map, List.length_map, List.length_take] at this; omega⟩
    have htl := HTL.out
    clear ho he hb hok hmp
    by_cases hj : j < ms.length
    · obtain ⟨m, hm⟩ : ∃ m, ms[j]? = some m := ⟨_, List.getElem?_eq_getElem hj⟩
      obtain ⟨ad, rfl⟩ := HRM.out.some_ hm
      have HMJ := Hd.mk hm
      have HAL : Hd (Al Wd Ht m) := ⟨by have h := HALL.out j hj; rwa [nthM_at hm] at h⟩
      clear hm
      go_upto_region 6 with fail
      refine wp_region_vd 3 [23, 24, 8] [] [2] 31 [.int .i64 0, .int .i64 0, .int .i64 0, .bool false] [isV (.pointer (some (ad.add (j * 4)))), isV (.agg #[.int .i64 m.x, .int .i64 m.y, .int .i64 m.t, .bool m.f]), SP.any] (by rfl) alloc_M ?_ ?_
      · intro qi qh qA aa wx hb hs hd
        match qi, qh, qA with
        | 0, _, _ => exact .inl ⟨rfl, op_run rfl (op_idxVM hj rfl (hs 19 rfl) (hs 21 rfl) _) rfl⟩
        | 1, _, _ => exact .inl ⟨rfl, op_ldvVM rfl rfl (hd 0 rfl) ((HRM.out.to (bel_then HB.out hb)).at_ HMJ.out)⟩
        | 2, _, h => cases h
        | qi + 3, h, _ => omega
      intro vs X1 hb hv hal hne
      have HL0 := Hd.mk (HE.out.lt)
      have HBW := HB
      replace HB := Hd.mk (bel_then HB.out hb)
      replace HE := Hd.mk (HE.out.to hb)
      replace HM := Hd.mk (HM.out.to hb)
      have HOL := Hd.mk HO.out.lt
      replace HO := Hd.mk (HO.out.to hb)
      have e24 : vs 24 = .agg #[.int .i64 m.x, .int .i64 m.y, .int .i64 m.t, .bool m.f] := hv 1 (by decide) rfl
      obtain ⟨g8, e8, l8, b8⟩ : ∃ g, vs 8 = .pointer (some ⟨g, 0, none⟩) ∧ _ := hal 2 rfl
      replace HE : Hd (Env X1 [⟨w.heap.size, 27, [.int .i64 Wd, .int .i64 Ht, .slice (some bd) xs.length c]⟩, ⟨g8, 31, [.int .i64 0, .int .i64 0, .int .i64 0, .bool false]⟩]) := ⟨Env.addne (e := ⟨g8, 31, [.int .i64 0, .int .i64 0, .int .i64 0, .bool false]⟩) HE.out b8 (fun e' he => Nat.ne_of_lt (Nat.lt_of_lt_of_le (HL0.out e' he) l8))⟩
      have HOG8 : Hd (∀ k, u6.ownBlock = some k → k < g8) := ⟨fun k hk => Nat.lt_of_lt_of_le (HOL.out k hk).2 l8⟩
      have G8 : Hd (w.heap.size ≤ g8) := ⟨Nat.le_trans HBW.out.size l8⟩
      simp only [PA, e24, e8]
      clear hv hal hne hb HL0 HBW e24 e8 l8 b8 HOL
      refine wpList_st rfl rfl rfl rfl rfl (sto_M (HE.out.get 1 rfl)) ?_
      have HE' : Env (putL X1 g8 0 [.int .i64 m.x, .int .i64 m.y, .int .i64 m.t, .bool m.f]) [⟨w.heap.size, 27, [.int .i64 Wd, .int .i64 Ht, .slice (some bd) xs.length c]⟩, ⟨g8, 31, [.int .i64 m.x, .int .i64 m.y, .int .i64 m.t, .bool m.f]⟩] := HE.out.putF 1 rfl rfl
      have HB' := putL_below (show w.heap.size ≤ g8 from G8.out) [.int .i64 m.x, .int .i64 m.y, .int .i64 m.t, .bool m.f] _ 0 HB.out
      replace HM := Hd.mk (HM.out.putB (vs := [.int .i64 m.x, .int .i64 m.y, .int .i64 m.t, .bool m.f]) (o := 0) (HE.out.get 1 rfl))
      replace HO := Hd.mk (HO.out.put (vs := [.int .i64 m.x, .int .i64 m.y, .int .i64 m.t, .bool m.f]) (o := 0) HOG8.out)
      generalize putL X1 g8 0 [.int .i64 m.x, .int .i64 m.y, .int .i64 m.t, .bool m.f] = X2 at *
      replace HE := Hd.mk HE'
      replace HB := Hd.mk HB'
      clear HE' HB'
      go_upto_region 7 with fail
      refine wp_region_vs 7 [25, 26, 27, 28, 29, 30, 31] [0] [] 84 [.int .i64 0, .int .i64 0] [isV (u6), isV (.agg #[.int .i64 Wd, .int .i64 Ht, .slice (some bd) xs.length c]), isV (.agg #[.int .i64 Wd, .int .i64 Ht]), isV (.agg #[.int .i64 m.x, .int .i64 m.y, .int .i64 m.t, .bool m.f]), isV (.agg #[.int .i64 Wd, .int .i64 Ht, .slice (some bd) xs.length c]), isFS X2.heap.size Wd Ht (apM Wd Ht m xs), isR1 X2.heap.size Wd Ht (apM Wd Ht m xs)] (by kernel_rfl) (by kernel_rfl) (by kernel_rfl) (by rfl) alloc_Z (fun d v c a w h => by cases d <;> exact h) ?_ ?_
      · intro qi qh qA aa wx hb hs hd
        match qi, qh, qA with
        | 0, _, _ => exact op_mv rfl (hs 6 rfl)
        | 1, _, _ => exact op_ldT rfl rfl (hs 3 rfl) ((HE.out.to hb).get 0 rfl)
        | 2, _, _ => exact op_call1 rfl rfl Try.call50 (by rw [(show aa.eval (.tmp 26) = .agg #[.int .i64 Wd, .int .i64 Ht, .slice (some bd) xs.length c] from (hd 1 rfl))]; exact size_got Wd Ht (some bd) xs.length c _)
        | 3, _, _ => exact op_ldM rfl rfl (hs 8 rfl) ((HE.out.to hb).get 1 rfl)
        | 4, _, _ => exact op_ldT rfl rfl (hs 3 rfl) ((HE.out.to hb).get 0 rfl)
        | 5, _, _ => exact op_call3 rfl rfl Try.call52 (by rw [(show aa.eval (.tmp 27) = .agg #[.int .i64 Wd, .int .i64 Ht] from (hd 2 rfl)), (show aa.eval (.tmp 28) = .agg #[.int .i64 m.x, .int .i64 m.y, .int .i64 m.t, .bool m.f] from (hd 3 rfl)), (show aa.eval (.tmp 29) = .agg #[.int .i64 Wd, .int .i64 Ht, .slice (some bd) xs.length c] from (hd 4 rfl))]; exact got_fs hb.size (apply_got Wd Ht m.x m.y m.t m.f bd c xs _ (HRI.out.to (bel_then HB.out hb)) HAL.out.okm HVL.out))
        | 6, _, _ => exact op_row1 rfl rfl (hd 5 rfl) _ hb.size
        | qi + 7, h, _ => omega
      intro vs X3 hb hv hal hne
      have HBW := HB
      replace HB := Hd.mk (bel_then HB.out hb)
      replace HE := Hd.mk (HE.out.to hb)
      replace HM := Hd.mk (HM.out.to hb)
      have HOL := Hd.mk HO.out.lt
      replace HO := Hd.mk (HO.out.to hb)
      have e25 : vs 25 = u6 := hv 0 (by decide) rfl
      obtain ⟨gR, AR, kR, e31, lR, bR, cR⟩ : (isR1 X2.heap.size Wd Ht (apM Wd Ht m xs)).p (vs 31) X3 := hv 6 (by decide) rfl
      have HR1 := Hd.mk bR
      have HRC := Hd.mk cR
      have HRL := Hd.mk (Nat.le_trans HBW.out.size lR)
      clear lR bR cR
      simp only [PA, e25, e31]
      clear hv hal hne hb HBW e25 e31 HOL
      have HXS := Nat.le_trans HB.out.size (Nat.le_refl _)
      obtain ⟨i0, hi0, hz0, hz1, hz2⟩ := info_parts Try.info_stamp
      have hg0 := (HE.out.get 0 rfl).lt
      refine wpList_append_own _ rfl (.tmp 25) (.tmp 31) 72 rfl (w.heap.size + 1) 27 i0 (.agg #[.int .i64 0, .int .i64 0, .slice none 0 0]) 3 40 Try.underlying72 hi0 hz0 hz1 hz2 rfl (by decide) u6 ts.length (ts.flatMap (encT Wd Ht)) rfl HO.out ⟨gR, 0, none⟩ 1 1 [.int .i64 Wd, .int .i64 Ht, .slice AR (apM Wd Ht m xs).length kR] rfl rfl ?c1 ?c2 ?c3 ?c4 ?c5 ?_
      case c1 =>
        intro z u hz
        rw [addr_zero, HR1.out.cell]
        exact hz
      case c2 =>
        intro u hu
        simp at hu
        rcases hu with rfl | rfl | rfl <;> rfl
      case c3 => unfold maxLen; omega
      case c4 => omega
      case c5 => omega
      intro v1 w1 hown1 hg1 _
      have HB1 := HB.out.grown hg1 (by omega) (fun z hz => Nat.le_trans (Nat.le_succ _) (HO.out.lt z hz).1)
      have HE1 := (Env.grownBy_ HE.out hg1 (fun e he hz => by
        have h1 := HO.out.lt e.g hz.symm
        rcases List.mem_cons.1 he with rfl | he
        · exact absurd h1.1 (Nat.not_succ_le_self _)
        rw [List.mem_singleton.1 he] at hz
        exact absurd (HOG8.out _ hz.symm) (by simp)))
      have HM0 : OkT X3 (ts ++ [⟨AR, kR, apM Wd Ht m xs⟩]) := by
        intro s hs
        rcases List.mem_append.1 hs with h | h
        · exact HM.out s h
        rw [List.mem_singleton.1 h]
        exact ⟨HRC.out, by show (apM Wd Ht m xs).length ≤ _; rw [apM_length]; omega⟩
      have HM1 := OkT.grown_ HM0 hg1 HO.out.blk
      clear HM0
      have HO1 : OwnT (w.heap.size + 1) w1 v1 Wd Ht (ts ++ [⟨AR, kR, apM Wd Ht m xs⟩]) := by
        unfold OwnT
        rw [List.flatMap_append, List.length_append]
        exact hown1
      have HMP1 : (ts ++ [⟨AR, kR, apM Wd Ht m xs⟩] : List Sl).map Sl.xs = (ms.take (j + 1)).map (fun m => apM Wd Ht m xs) := by
        rw [List.map_append, HMP.out, List.take_add_one, HMJ.out, List.map_append]
        rfl
      replace HB := Hd.mk HB1
      replace HO := Hd.mk HO1
      replace HE := Hd.mk HE1
      replace HM := Hd.mk HM1
      clear HB1 HO1 HE1 HM1 hown1 hg1
      go_wp2_with fail
      go_roundw
      case rel => exact ⟨j + 1, _, by omega, by go_num, HMP1, HM.out, HO.out, Env.front (L := [⟨w.heap.size, 27, [.int .i64 Wd, .int .i64 Ht, .slice (some bd) xs.length c]⟩]) HE.out, HB.out⟩
      case measure => simp [intOf]; omega
    have e1 : j = ms.length := by omega
    have HMP1 : ts.map Sl.xs = ms.map (fun m => apM Wd Ht m xs) := by
      rw [HMP.out, e1, List.take_length]
    have hne : ts ≠ [] := fun e => by rw [e] at htl; have := HNZ.out; simp at htl; omega
    obtain ⟨g, cap, rest, e6, hlo, hbk, hlc, hcm⟩ := HO.out.row hne
    have hcm2 : cap ≤ 9223372036854775807 := hcm
    clear hcm
    have hso := sortT_calls Wd Ht g cap ts rest wr hbk HM.out (by omega)
    have HCP := Hd.mk (fun (ts' : List Sl) (w1 : World) (h1 : Blk w1 g 27 (ts'.flatMap (encT Wd Ht) ++ rest)) (h2 : OkT w1 ts') (h3 : ts'.length = ts.length) => (show Calls Try.prog 78 #[.slice (some ⟨g, 0, none⟩) ts.length cap, _] w1 _ from by rw [← h3]; exact Compact_calls Wd Ht g cap ts' rest w1 h1 h2 (by omega) (by omega) hcm2))
    have HBK := Hd.mk hbk
    have HLO := Hd.mk hlo
    clear hbk hlo htl e1 hlc
    subst e6
    go_wp2_with (first | (go_at_call 77; refine hso.mono ?_; rintro e1 w1 ⟨rfl, ts1, hp1, hs1, hb1, hg1⟩) | (go_at_call 78; refine (HCP.out ts1 _ hb1 (OkT.by_ (fun s hs => HM.out s (hp1.mem_iff.1 hs)) hg1 HBK.out (by decide)) hp1.length_eq).mono ?_; rintro e2 w2 ⟨rest2, rfl, hb2, hg2⟩))
    refine bodyPost_ret (v := .tuple #[.slice (some ⟨g, 0, none⟩) (ddN ts1 ts1.length).length cap, .int .i64 0]) (by simp [results, Try.results44, go_sem]) rfl ?_
    have HB2 := (HB.out.grown hg1 (by have := HB.out.size; omega) (fun z hz => by injection hz with hz; have := HLO.out; omega)).grown hg2 (by have := HB.out.size; have := hg1.size; omega) (fun z hz => by injection hz with hz; have := HLO.out; omega)
    have HOK1 : OkT w1 ts1 := OkT.by_ (fun s hs => HM.out s (hp1.mem_iff.1 hs)) hg1 HBK.out (by decide)
    have HOK2 : OkT w2 (ddN ts1 ts1.length) := OkT.by_ (fun s hs => HOK1 s (ddN_mem (Nat.le_refl _) s hs)) hg2 hb1 (by decide)
    exact ⟨_, rfl, HB2, _, _, rfl, ⟨g, cap, rest2, ddN ts1 ts1.length, rfl, orb_of HMP1 hp1 hs1 hne, Nat.le_trans (Nat.le_succ _) HLO.out, hb2, HOK2⟩, rfl⟩
end Go.Proofs.Ytddbmckbankmeaa
set_option linter.unusedVariables false
set_option linter.unusedSimpArgs false
namespace Go.Proofs.Ytddbmckbankmeaa
open Go.RowKit
def leastL (W H : Int) (xs : List Int) (ms : List Mv) : List Int := (orbL W H xs ms).getD 0 []
def okS (W H : Int) (ys : List Int) : SP := ⟨fun v w => ∃ s : Sl, s.xs = ys ∧ v = .agg #[.int .i64 W, .int .i64 H, .slice s.A s.xs.length s.k] ∧ s.ok w, fun v w w' h hb => by
  obtain ⟨s, h1, h2, h3⟩ := h
  exact ⟨s, h1, h2, h3.to hb⟩⟩
theorem OkT.one {w : World} {s : Sl} (h : s.ok w) : OkT w [s] := fun z hz => by rw [List.mem_singleton.1 hz]; exact h
theorem ts_head {W H : Int} {xs : List Int} {ms : List Mv} {ts : List Sl} {s : Sl} (h : ts.map Sl.xs = orbL W H xs ms) (hs : ts[0]? = some s) : leastL W H xs ms = s.xs := by
  unfold leastL
  rw [← h]
  simp [List.getD_eq_getElem?_getD, hs]
theorem orb_mem {W H : Int} {xs : List Int} {ms : List Mv} {z : List Int} : z ∈ orbL W H xs ms ↔ ∃ m ∈ ms, apM W H m xs = z := by
  obtain ⟨_, k2⟩ := fold_ins (ms.map fun m => apM W H m xs) [] List.Pairwise.nil
  unfold orbL
  rw [k2, List.mem_map]
  simp
theorem orb_rises (W H : Int) (xs : List Int) (ms : List Mv) : (orbL W H xs ms).Pairwise (fun a b => cmpL a b < 0) := (fold_ins _ [] List.Pairwise.nil).1
theorem ts_some {W H : Int} {xs : List Int} {ms : List Mv} {ts : List Sl} (h : ts.map Sl.xs = orbL W H xs ms) (hm : 0 < ms.length) : ∃ s, ts[0]? = some s := by
  cases ts with
  | nil =>
    have h2 : apM W H ms[0] xs ∈ orbL W H xs ms := orb_mem.2 ⟨_, List.getElem_mem _, rfl⟩
    rw [← h] at h2
    cases h2
  | cons a l => exact ⟨a, rfl⟩
theorem got_ts {f lo lo' : Nat} {vs : Array Value} {w : World} {W H : Int} {xss : List (List Int)} {q : SP} (h : lo ≤ lo') (hc : Calls Try.prog f vs w (Got w (isP (isTs lo' W H xss) q).p)) : Calls Try.prog f vs w (Got w (isP (isTs lo W H xss) q).p) :=
  hc.mono fun e w' ⟨v, h1, h2, x, y, h3, ⟨g, k, rest, ts, h4, h5, h6, h7⟩, h8⟩ => ⟨v, h1, h2, x, y, h3, ⟨g, k, rest, ts, h4, h5, Nat.le_trans h h6, h7⟩, h8⟩
set_option maxRecDepth 100000 in
set_option maxHeartbeats 1000000 in
theorem Least_no (Wd Ht : Int) (A : Option Addr) (k : Nat) (ms : List Mv) (B : Option Addr) (c : Nat) (xs : List Int) (w : World) (hrm : RdM w A ms) (hln : ms.length ≤ 100000) (hri : RI w B xs) (hn : (validB Wd Ht xs && gB Wd Ht ms) = false) :
    Calls Try.prog 46 #[.slice A ms.length k, .agg #[.int .i64 Wd, .int .i64 Ht, .slice B xs.length c]] w (Got w (isP (isV (.agg #[.int .i64 0, .int .i64 0, .slice none 0 0])) (isV (.int .i64 2))).p) := by
  have HRM := Hd.mk hrm
  have HRI := Hd.mk hri
  clear hrm hri
  have HN := Hd.mk hn
  clear hn
  go_enter Try.func46, Try.ntmps46
  go_upto_region 1 with fail
  obtain ⟨W0, hW0⟩ : ∃ W : World, W = (w.alloc (.cells #[.int .i64 Wd, .int .i64 Ht, .slice B xs.length c] 27)).alloc (.cells #[.int .i64 0, .int .i64 0, .slice none 0 0] 27) := ⟨_, rfl⟩
  rw [← hW0]
  obtain ⟨he, hb⟩ := env_two hW0
  have HE := Hd.mk he
  have HB := Hd.mk hb
  clear he hb hW0
  refine wp_region_vd 6 [9, 10, 11, 8, 12, 13] [0, 3, 4, 5] [] 84 [.int .i64 0, .int .i64 0] [isV (.slice A ms.length k), isV (.agg #[.int .i64 Wd, .int .i64 Ht, .slice B xs.length c]), isP (isV (.slice none 0 0)) (isV (.int .i64 2)), isP (isV (.slice none 0 0)) (isV (.int .i64 2)), isV (.slice none 0 0), isV (.int .i64 2)] (by rfl) alloc_Z ?_ ?_
  · intro qi qh qA aa wx hb hs hd
    match qi, qh, qA with
    | 0, _, _ => exact .inl ⟨rfl, op_mv rfl (hs 0 rfl)⟩
    | 1, _, _ => exact .inl ⟨rfl, op_ldT rfl rfl (hs 3 rfl) ((HE.out.to hb).get 0 rfl)⟩
    | 2, _, _ => exact .inl ⟨rfl, op_call2 rfl rfl Try.call44 (by rw [(show aa.eval (.tmp 9) = .slice A ms.length k from (hd 0 rfl)), (show aa.eval (.tmp 10) = .agg #[.int .i64 Wd, .int .i64 Ht, .slice B xs.length c] from (hd 1 rfl))]; exact Orbit_no Wd Ht A k ms B c xs _ (HRM.out.to (bel_then HB.out hb)) (by omega) (HRI.out.to (bel_then HB.out hb)) HN.out)⟩
    | 3, _, _ => exact .inl ⟨rfl, op_mv rfl (hd 2 rfl)⟩
    | 4, _, _ => exact .inl ⟨rfl, op_fst rfl (hd 3 rfl)⟩
    | 5, _, _ => exact .inl ⟨rfl, op_snd rfl (hd 3 rfl)⟩
    | qi + 6, h, _ => omega
  intro vs X1 hb hv hal hne
  replace HB := Hd.mk (bel_then HB.out hb)
  replace HE := Hd.mk (HE.out.to hb)
  have e12 : vs 12 = .slice none 0 0 := hv 4 (by decide) rfl
  have e13 : vs 13 = .int .i64 2 := hv 5 (by decide) rfl
  simp only [PA, e12, e13]
  clear hv hal hne hb e12 e13
  go_upto_region 2 with fail
  refine wp_region_vd 2 [14, 15] [0, 1] [] 84 [.int .i64 0, .int .i64 0] [isV (.int .i64 2), isV (.bool true)] (by rfl) alloc_Z ?_ ?_
  · intro qi qh qA aa wx hb hs hd
    match qi, qh, qA with
    | 0, _, _ => exact .inl ⟨rfl, op_mv rfl (hs 7 rfl)⟩
    | 1, _, _ => exact .inl ⟨rfl, pure_b (bool_eq (by decide)) (⟨_, op_neqE rfl (hd 0 rfl) rfl, rfl⟩)⟩
    | qi + 2, h, _ => omega
  intro vs X2 hb hv hal hne
  replace HB := Hd.mk (bel_then HB.out hb)
  replace HE := Hd.mk (HE.out.to hb)
  have e15 : vs 15 = .bool true := hv 1 (by decide) rfl
  simp only [PA, e15]
  clear hv hal hne hb e15
  go_upto_region 3 with fail
  refine wp_region_vd 2 [16, 17] [0, 1] [] 84 [.int .i64 0, .int .i64 0] [isV (.agg #[.int .i64 0, .int .i64 0, .slice none 0 0]), isV (.int .i64 2)] (by rfl) alloc_Z ?_ ?_
  · intro qi qh qA aa wx hb hs hd
    match qi, qh, qA with
    | 0, _, _ => exact .inl ⟨rfl, ⟨_, op_b0T rfl, rfl⟩⟩
    | 1, _, _ => exact .inl ⟨rfl, op_mv rfl (hs 7 rfl)⟩
    | qi + 2, h, _ => omega
  intro vs X3 hb hv hal hne
  replace HB := Hd.mk (bel_then HB.out hb)
  replace HE := Hd.mk (HE.out.to hb)
  have e16 : vs 16 = .agg #[.int .i64 0, .int .i64 0, .slice none 0 0] := hv 0 (by decide) rfl
  have e17 : vs 17 = .int .i64 2 := hv 1 (by decide) rfl
  simp only [PA, e16, e17]
  clear hv hal hne hb e16 e17
  refine wpList_st rfl rfl rfl rfl rfl (sto_T (HE.out.get 1 rfl)) ?_
  have HE' : Env (putL X3 (w.heap.size + 1) 0 [.int .i64 0, .int .i64 0, .slice none 0 0]) [⟨w.heap.size, 27, [.int .i64 Wd, .int .i64 Ht, .slice B xs.length c]⟩, ⟨w.heap.size + 1, 27, [.int .i64 0, .int .i64 0, .slice none 0 0]⟩] := HE.out.putF 1 rfl rfl
  have HB' := putL_below (show w.heap.size ≤ w.heap.size + 1 from by omega) [.int .i64 0, .int .i64 0, .slice none 0 0] _ 0 HB.out
  generalize putL X3 (w.heap.size + 1) 0 [.int .i64 0, .int .i64 0, .slice none 0 0] = X4 at *
  replace HE := Hd.mk HE'
  replace HB := Hd.mk HB'
  clear HE' HB'
  go_wp2_with fail
  have k0a := HE.out.cell 1 0 rfl rfl
  have k0b := HE.out.cell 1 1 rfl rfl
  have k0c := HE.out.cell 1 2 rfl rfl
  refine bodyPost_ret (v := .tuple #[.agg #[.int .i64 0, .int .i64 0, .slice none 0 0], .int .i64 2]) (by simp [results, Try.results46, go_sem, k0a, k0b, k0c]) rfl ?_
  exact ⟨_, rfl, HB.out, _, _, rfl, rfl, rfl⟩
set_option maxRecDepth 100000 in
set_option maxHeartbeats 1000000 in
theorem Least_ok (Wd Ht : Int) (A : Option Addr) (k : Nat) (ms : List Mv) (B : Option Addr) (c : Nat) (xs : List Int) (w : World) (hrm : RdM w A ms) (hln : ms.length ≤ 100000) (hri : RI w B xs) (hv : validB Wd Ht xs = true) (hg : gB Wd Ht ms = true) :
    Calls Try.prog 46 #[.slice A ms.length k, .agg #[.int .i64 Wd, .int .i64 Ht, .slice B xs.length c]] w (Got w (isP (okS Wd Ht (leastL Wd Ht xs ms)) (isV (.int .i64 0))).p) := by
  have HNZ := Hd.mk (group_nz hg (valid_size hv))
  have HRM := Hd.mk hrm
  have HRI := Hd.mk hri
  have HV := Hd.mk hv
  have HG := Hd.mk hg
  clear hrm hri hv hg
  go_enter Try.func46, Try.ntmps46
  go_upto_region 1 with fail
  obtain ⟨W0, hW0⟩ : ∃ W : World, W = (w.alloc (.cells #[.int .i64 Wd, .int .i64 Ht, .slice B xs.length c] 27)).alloc (.cells #[.int .i64 0, .int .i64 0, .slice none 0 0] 27) := ⟨_, rfl⟩
  rw [← hW0]
  obtain ⟨he, hb⟩ := env_two hW0
  have HE := Hd.mk he
  have HB := Hd.mk hb
  clear he hb hW0
  refine wp_region_vd 6 [9, 10, 11, 8, 12, 13] [0, 3, 4, 5] [] 84 [.int .i64 0, .int .i64 0] [isV (.slice A ms.length k), isV (.agg #[.int .i64 Wd, .int .i64 Ht, .slice B xs.length c]), isP (isTs W0.heap.size Wd Ht (orbL Wd Ht xs ms)) (isV (.int .i64 0)), isP (isTs W0.heap.size Wd Ht (orbL Wd Ht xs ms)) (isV (.int .i64 0)), isTs W0.heap.size Wd Ht (orbL Wd Ht xs ms), isV (.int .i64 0)] (by rfl) alloc_Z ?_ ?_
  · intro qi qh qA aa wx hb hs hd
    match qi, qh, qA with
    | 0, _, _ => exact .inl ⟨rfl, op_mv rfl (hs 0 rfl)⟩
    | 1, _, _ => exact .inl ⟨rfl, op_ldT rfl rfl (hs 3 rfl) ((HE.out.to hb).get 0 rfl)⟩
    | 2, _, _ => exact .inl ⟨rfl, op_call2 rfl rfl Try.call44 (by rw [(show aa.eval (.tmp 9) = .slice A ms.length k from (hd 0 rfl)), (show aa.eval (.tmp 10) = .agg #[.int .i64 Wd, .int .i64 Ht, .slice B xs.length c] from (hd 1 rfl))]; exact got_ts hb.size (Orbit_ok Wd Ht A k ms B c xs _ (HRM.out.to (bel_then HB.out hb)) (by omega) (HRI.out.to (bel_then HB.out hb)) HV.out HG.out))⟩
    | 3, _, _ => exact .inl ⟨rfl, op_mv rfl (hd 2 rfl)⟩
    | 4, _, _ => exact .inl ⟨rfl, op_fst rfl (hd 3 rfl)⟩
    | 5, _, _ => exact .inl ⟨rfl, op_snd rfl (hd 3 rfl)⟩
    | qi + 6, h, _ => omega
  intro vs X1 hb hv hal hne
  have HL0 := Hd.mk (HE.out.lt)
  have HBW := HB
  replace HB := Hd.mk (bel_then HB.out hb)
  replace HE := Hd.mk (HE.out.to hb)
  obtain ⟨gT, kT, restT, tsT, e12, hmT, l12, b12, okT⟩ : (isTs W0.heap.size Wd Ht (orbL Wd Ht xs ms)).p (vs 12) X1 := hv 4 (by decide) rfl
  replace HE : Hd (Env X1 [⟨w.heap.size, 27, [.int .i64 Wd, .int .i64 Ht, .slice B xs.length c]⟩, ⟨w.heap.size + 1, 27, [.int .i64 0, .int .i64 0, .slice none 0 0]⟩, ⟨gT, 27, tsT.flatMap (encT Wd Ht) ++ restT⟩]) := ⟨Env.addne (e := ⟨gT, 27, tsT.flatMap (encT Wd Ht) ++ restT⟩) HE.out b12 (fun e' he => Nat.ne_of_lt (Nat.lt_of_lt_of_le (HL0.out e' he) l12))⟩
  have HMT := Hd.mk hmT
  have OKT := Hd.mk okT
  have G12 : Hd (w.heap.size ≤ gT) := ⟨Nat.le_trans HBW.out.size l12⟩
  clear hmT okT l12 b12
  have e13 : vs 13 = .int .i64 0 := hv 5 (by decide) rfl
  simp only [PA, e12, e13]
  clear hv hal hne hb HL0 HBW e12 e13
  go_upto_region 2 with fail
  refine wp_region_vd 2 [14, 15] [0, 1] [] 84 [.int .i64 0, .int .i64 0] [isV (.int .i64 0), isV (.bool false)] (by rfl) alloc_Z ?_ ?_
  · intro qi qh qA aa wx hb hs hd
    match qi, qh, qA with
    | 0, _, _ => exact .inl ⟨rfl, op_mv rfl (hs 7 rfl)⟩
    | 1, _, _ => exact .inl ⟨rfl, pure_b (bool_eq (by decide)) (⟨_, op_neqE rfl (hd 0 rfl) rfl, rfl⟩)⟩
    | qi + 2, h, _ => omega
  intro vs X2 hb hv hal hne
  replace HB := Hd.mk (bel_then HB.out hb)
  replace HE := Hd.mk (HE.out.to hb)
  replace OKT := Hd.mk (OKT.out.to hb)
  have e15 : vs 15 = .bool false := hv 1 (by decide) rfl
  simp only [PA, e15]
  clear hv hal hne hb e15
  obtain ⟨s0, hs0⟩ := ts_some HMT.out HNZ.out
  have HS0 := Hd.mk hs0
  have htl : 0 < tsT.length := (List.getElem?_eq_some_iff.1 hs0).1
  clear hs0
  go_upto_region 4 with fail
  refine wp_region_vd 3 [18, 19, 20] [0] [] 84 [.int .i64 0, .int .i64 0] [isV (.slice (some ⟨gT, 0, none⟩) tsT.length kT), isV (.pointer (some ⟨gT, 0 + 0 * 3, none⟩)), isV (.agg #[.int .i64 Wd, .int .i64 Ht, .slice s0.A s0.xs.length s0.k])] (by rfl) alloc_Z ?_ ?_
  · intro qi qh qA aa wx hb hs hd
    match qi, qh, qA with
    | 0, _, _ => exact .inl ⟨rfl, op_mv rfl (hs 6 rfl)⟩
    | 1, _, _ => exact .inl ⟨rfl, op_run rfl (op_idxT (j := 0) htl rfl (hd 0 rfl) rfl _) rfl⟩
    | 2, _, _ => exact .inl ⟨rfl, op_ldvT rfl rfl (hd 1 rfl) (tcell_ld ((HE.out.to hb).get 2 rfl) HS0.out)⟩
    | qi + 3, h, _ => omega
  intro vs X3 hb hv hal hne
  replace HB := Hd.mk (bel_then HB.out hb)
  replace HE := Hd.mk (HE.out.to hb)
  replace OKT := Hd.mk (OKT.out.to hb)
  have e20 : vs 20 = .agg #[.int .i64 Wd, .int .i64 Ht, .slice s0.A s0.xs.length s0.k] := hv 2 (by decide) rfl
  simp only [PA, e20]
  clear hv hal hne hb e20
  refine wpList_st rfl rfl rfl rfl rfl (sto_T (HE.out.get 1 rfl)) ?_
  have HE' : Env (putL X3 (w.heap.size + 1) 0 [.int .i64 Wd, .int .i64 Ht, .slice s0.A s0.xs.length s0.k]) [⟨w.heap.size, 27, [.int .i64 Wd, .int .i64 Ht, .slice B xs.length c]⟩, ⟨w.heap.size + 1, 27, [.int .i64 Wd, .int .i64 Ht, .slice s0.A s0.xs.length s0.k]⟩, ⟨gT, 27, tsT.flatMap (encT Wd Ht) ++ restT⟩] := HE.out.putF 1 rfl rfl
  have HB' := putL_below (show w.heap.size ≤ w.heap.size + 1 from by omega) [.int .i64 Wd, .int .i64 Ht, .slice s0.A s0.xs.length s0.k] _ 0 HB.out
  replace OKT := Hd.mk (OKT.out.putB (vs := [.int .i64 Wd, .int .i64 Ht, .slice s0.A s0.xs.length s0.k]) (o := 0) (HE.out.get 1 rfl))
  generalize putL X3 (w.heap.size + 1) 0 [.int .i64 Wd, .int .i64 Ht, .slice s0.A s0.xs.length s0.k] = X4 at *
  replace HE := Hd.mk HE'
  replace HB := Hd.mk HB'
  clear HE' HB'
  go_wp2_with fail
  have k0a := HE.out.cell 1 0 rfl rfl
  have k0b := HE.out.cell 1 1 rfl rfl
  have k0c := HE.out.cell 1 2 rfl rfl
  refine bodyPost_ret (v := .tuple #[.agg #[.int .i64 Wd, .int .i64 Ht, .slice s0.A s0.xs.length s0.k], .int .i64 0]) (by simp [results, Try.results46, go_sem, k0a, k0b, k0c]) rfl ?_
  exact ⟨_, rfl, HB.out, _, _, rfl, ⟨s0, (ts_head HMT.out HS0.out).symm, rfl, OKT.out s0 (List.mem_of_getElem? HS0.out)⟩, rfl⟩
end Go.Proofs.Ytddbmckbankmeaa
set_option linter.unusedVariables false
set_option linter.unusedSimpArgs false
namespace Go.Proofs.Ytddbmckbankmeaa
section
variable {α β : Type}
theorem len_sub (D : DecidableEq α) : ∀ {l m : List α}, l.Nodup → (∀ x ∈ l, x ∈ m) → l.length ≤ m.length
  | [], m, _, _ => Nat.zero_le _
  | x :: l, m, hn, hs => by
    rw [List.nodup_cons] at hn
    have hx : x ∈ m := hs x (by simp)
    have h := len_sub D (l := l) (m := m.erase x) hn.2 (fun y hy => (List.mem_erase_of_ne (fun e => hn.1 (by rw [← e]; exact hy))).2 (hs y (by simp [hy])))
    rw [List.length_erase_of_mem hx] at h
    have := List.length_pos_of_mem hx
    rw [List.length_cons]
    omega
end
section
variable {W H : Int} {ms : List Mv} {m n : Mv} {xs : List Int}
end
end Go.Proofs.Ytddbmckbankmeaa
set_option linter.unusedVariables false
set_option linter.unusedSimpArgs false
namespace Go.Proofs.Ytddbmckbankmeaa
open Go.RowKit
section
variable {lo lo' : Nat} {w : World} {v : Value} {A : Option Addr} {n k : Nat} {xs : List Int}
theorem own_lenI (h : OwnI lo w v xs) : ∃ A k, v = .slice A xs.length k := by
  rcases h.2 with ⟨rfl, hn⟩ | ⟨g', cap, cur, rfl, _⟩
  · exact ⟨none, 0, by rw [hn]⟩
  exact ⟨_, cap, rfl⟩
end
theorem OwnS.lower {lo lo' : Nat} {w : World} {v : Value} {ms : List Mv} (h : lo ≤ lo') (ho : OwnS lo' w v ms) : OwnS lo w v ms := by
  refine ⟨ho.1, ?_⟩
  rcases ho.2 with hn | ⟨g', cap, cur, rfl, hb, hgg, rest⟩
  · exact .inl hn
  exact .inr ⟨g', cap, cur, rfl, by omega, hgg, rest⟩
end Go.Proofs.Ytddbmckbankmeaa
set_option linter.unusedVariables false
set_option linter.unusedSimpArgs false
namespace Go.Proofs.Ytddbmckbankmeaa
open Go.RowKit
theorem cmpL_cons (a : Int) (xs ys : List Int) : cmpL (a :: xs) (a :: ys) = cmpL xs ys := by rw [cmpL, if_pos (cmpI_zero.2 rfl)]
theorem cmpI_less {x y : Int} (h : x < y) : cmpI x y = -1 := if_pos h
theorem cmpI_more {x y : Int} (h : y < x) : cmpI x y = 1 := by unfold cmpI; rw [if_neg (by omega), if_pos h]
theorem ri_grown {w w' : World} {A : Option Addr} {xs : List Int} {r : Option Nat} (h : RI w A xs) (hg : w.grownBy w' r) (hne : ∀ ad, A = some ad → ∀ z, r = some z → z ≠ ad.block) : RI w' A xs := fun hn => by
  obtain ⟨ad, e, hc⟩ := h hn
  refine ⟨ad, e, fun j hj => ?_⟩
  have hlt := World.block_lt_of_cell? w _ (hc j hj)
  rw [block_of_add] at hlt
  have hk : w'.cell? (ad.add j) = w.cell? (ad.add j) := World.cell?_of_block (by rw [block_of_add]; exact hg.block _ hlt (fun er => hne ad e _ er.symm rfl))
  rw [hk]
  exact hc j hj
theorem op_litO2 {Q : Exit → Act → World → Prop} {o : Oper} {a : Act} {w : World} {d : Nat} {x1 x2 : Operand} {n1 n2 : Int} (ho : o.op = .buildSlice 22 2 #[(0, x1), (1, x2)]) (hd : o.dst = some d) (h1 : a.eval x1 = .int .i64 n1) (h2 : a.eval x2 = .int .i64 n2) (lo : Nat) (hl : lo ≤ w.heap.size) :
    o.wp Try.prog a w (Post a w d (isIs lo [n1, n2]).p) Q := by
  have key : (execOp a.eval o).run Try.prog w = .ok (.value (.slice (some ⟨w.heap.size, 0, none⟩) 2 2)) (w.alloc (.cells (ints [n1, n2]).toArray 3)) := by
    generalize a.eval = ev at h1 h2 ⊢
    unfold execOp
    simp only [ho]
    simp [go_sem, ints, h1, h2]
  unfold Oper.wp
  rw [key]
  simp only [Oper.upon, hd]
  exact ⟨_, rfl, below_alloc (Below.refl _ _) _, rfl, .inr ⟨w.heap.size, 2, _, rfl, hl, heap_alloc_new w _, Nat.le_refl _, by unfold maxLen; omega, rfl, rfl⟩⟩
set_option maxRecDepth 100000 in
set_option maxHeartbeats 1000000 in
theorem Order_got (Wd Ht : Int) (s1 s0 : Sl) (w : World) (hr1 : RI w s1.A s1.xs) (hr0 : RI w s0.A s0.xs) (hle : s1.xs.length = s0.xs.length) (hl0 : 0 < s0.xs.length) (hl1 : s1.xs.length ≤ 1000) (hl2 : s0.xs.length ≤ 1000) :
    Calls Try.prog 80 #[.agg #[.int .i64 Wd, .int .i64 Ht, .slice s1.A s1.xs.length s1.k], .agg #[.int .i64 Wd, .int .i64 Ht, .slice s0.A s0.xs.length s0.k]] w (Got w (isV (.int .i64 (cmpL s1.xs s0.xs))).p) := by
  obtain ⟨s1d, hd1, _⟩ := hr1 (by omega)
  obtain ⟨s0d, hd0, _⟩ := hr0 (by omega)
  rw [hd1, hd0]
  rw [hd1] at hr1
  rw [hd0] at hr0
  have HRs1 := Hd.mk hr1
  have HRs0 := Hd.mk hr0
  have HLE := Hd.mk hle
  clear hr1 hr0 hd1 hd0 hle
  go_enter Try.func80, Try.ntmps80
  go_upto_region 1 with fail
  obtain ⟨W0, hW0⟩ : ∃ W : World, W = (w.alloc (.cells #[.int .i64 Wd, .int .i64 Ht, .slice (some s1d) s1.xs.length s1.k] 24)).alloc (.cells #[.int .i64 Wd, .int .i64 Ht, .slice (some s0d) s0.xs.length s0.k] 24) := ⟨_, rfl⟩
  rw [← hW0]
  obtain ⟨he, hb⟩ := env_two hW0
  have HE := Hd.mk he
  have HB := Hd.mk hb
  clear he hb hW0
  have HLO : Hd (w.heap.size + 2 ≤ W0.heap.size) := ⟨(HE.out.get 1 rfl).lt⟩
  obtain ⟨i0, hi0, hz0, hz1, hz2⟩ := info_parts Try.info_int
  refine wp_region_vd 7 [8, 9, 10, 11, 12, 13, 14] [0, 2, 5] [] 84 [.int .i64 0, .int .i64 0] [isV (.pointer (some ⟨w.heap.size, 0, none⟩)), isV (.int .i64 Wd), isV (.pointer (some ⟨w.heap.size, 1, none⟩)), isV (.int .i64 Ht), isIs W0.heap.size ([Wd, Ht]), isV (.pointer (some ⟨w.heap.size, 2, none⟩)), isV (.slice (some s1d) s1.xs.length s1.k)] (by rfl) alloc_Z ?_ ?_
  · intro qi qh qA aa wx hb hs hd
    match qi, qh, qA with
    | 0, _, _ => exact .inl ⟨rfl, ⟨_, op_faU0 rfl (hs 2 rfl), rfl⟩⟩
    | 1, _, _ => exact .inl ⟨rfl, op_ldI rfl rfl (hd 0 rfl) ((HE.out.to hb).cell 0 0 rfl rfl)⟩
    | 2, _, _ => exact .inl ⟨rfl, ⟨_, op_faU1 rfl (hs 2 rfl), rfl⟩⟩
    | 3, _, _ => exact .inl ⟨rfl, op_ldI rfl rfl (hd 2 rfl) ((HE.out.to hb).cell 0 1 rfl rfl)⟩
    | 4, _, _ => exact .inl ⟨rfl, op_litO2 rfl rfl (hd 1 rfl) (hd 3 rfl) _ hb.size⟩
    | 5, _, _ => exact .inl ⟨rfl, ⟨_, op_faU2 rfl (hs 2 rfl), rfl⟩⟩
    | 6, _, _ => exact .inl ⟨rfl, op_ldS rfl rfl (hd 5 rfl) ((HE.out.to hb).cell 0 2 rfl rfl)⟩
    | qi + 7, h, _ => omega
  intro vs X1 hb hv hal hne
  replace HB := Hd.mk (bel_then HB.out hb)
  replace HE := Hd.mk (HE.out.to hb)
  have HSZ := Hd.mk hb.size
  have HO : Hd (OwnI W0.heap.size X1 (vs 12) ([Wd, Ht])) := ⟨hv 4 (by decide) rfl⟩
  obtain ⟨A12, k12, e12⟩ := own_lenI HO.out
  rw [e12] at HO
  have e14 : vs 14 = .slice (some s1d) s1.xs.length s1.k := hv 6 (by decide) rfl
  simp only [PA, e12, e14]
  clear hv hal hne hb e12 e14
  have HLS2 : Hd (W0.heap.size ≤ X1.heap.size) := ⟨HSZ.out⟩
  refine wpList_append_any _ rfl (.tmp 12) (.tmp 14) 22 rfl W0.heap.size 3 i0 (.int .i64 0) 1 8 Try.underlying22 hi0 hz0 hz1 hz2 rfl (by decide) (Value.slice A12 [Wd, Ht].length k12) 2 (ints [Wd, Ht]) rfl HO.out _ (some s1d) s1.xs.length s1.k (ints s1.xs) rfl (ri_row (HRs1.out.to HB.out)) (by intro u hu; obtain ⟨x, _, rfl⟩ := List.mem_map.1 hu; rfl) (by unfold maxLen; omega) (by omega) (Nat.le_trans (Nat.le_refl _) HLS2.out) ?_
  intro v1 w1 hown1 hg1 _
  have HOX : OwnI W0.heap.size w1 v1 (Wd :: Ht :: s1.xs) := by
    have h := hown1
    unfold OwnI
    rw [show (Wd :: Ht :: s1.xs).length = 2 + s1.xs.length by simp; omega]
    exact h
  have HB1 := HB.out.grown hg1 (Nat.le_trans (Nat.le_add_right _ 2) (Nat.le_trans HLO.out HLS2.out)) (fun z hz => Nat.le_trans (Nat.le_add_right _ 2) (Nat.le_trans HLO.out (HO.out.lt z hz).1))
  have HE1 := Env.grownBy_ HE.out hg1 (fun e he hz => by
    have h1 := Nat.le_trans HLO.out (HO.out.lt e.g hz.symm).1
    rcases List.mem_cons.1 he with rfl | he
    · exact absurd h1 (by simp)
    rw [List.mem_singleton.1 he] at h1
    exact absurd h1 (by simp))
  obtain ⟨A1, k1, rfl, hrx, _, hx3, hx4⟩ := OwnI.cl HOX
  have HRX := Hd.mk hrx
  replace HB := Hd.mk HB1
  replace HE := Hd.mk HE1
  clear HB1 HE1 hown1 hg1 HOX HO hrx
  have hlx : (Wd :: Ht :: s1.xs).length = s1.xs.length + 2 := rfl
  rw [hlx]
  rw [hlx] at hx3
  clear hlx
  obtain ⟨xa, rfl⟩ : ∃ ad, A1 = some ad := by obtain ⟨ad, e, _⟩ := HRX.out (by simp); exact ⟨ad, e⟩
  go_wp2_with fail
  go_loopw [17] (fun s17 wr => ∃ i : Nat, i ≤ s1.xs.length + 2 ∧ s17 = .int .i64 i ∧ (∀ q : Nat, q < i → (Wd :: Ht :: s1.xs).getD q 0 = (Wd :: Ht :: s0.xs).getD q 0) ∧ Env wr [⟨w.heap.size, 24, [.int .i64 Wd, .int .i64 Ht, .slice (some s1d) s1.xs.length s1.k]⟩, ⟨w.heap.size + 1, 24, [.int .i64 Wd, .int .i64 Ht, .slice (some s0d) s0.xs.length s0.k]⟩] ∧ RI wr (some xa) (Wd :: Ht :: s1.xs) ∧ Below w.heap.size w wr) (fun s17 _ => s1.xs.length + 2 - (intOf s17).toNat)
  case atStart => exact ⟨0, Nat.zero_le _, rfl, (fun q hq => by omega), HE.out, HRX.out, HB.out⟩
  case round =>
    obtain ⟨i, hi, rfl, hz, he, hrx, hb⟩ := hrel
    clear HB HE HRX HLO HLS2
    have HB := Hd.mk hb
    have HZ := Hd.mk hz
    have HRX := Hd.mk hrx
    have HE : Hd (Env wr [⟨w.heap.size, 24, [.int .i64 Wd, .int .i64 Ht, .slice (some s1d) s1.xs.length s1.k]⟩, ⟨w.heap.size + 1, 24, [.int .i64 Wd, .int .i64 Ht, .slice (some s0d) s0.xs.length s0.k]⟩]) := ⟨he⟩
    clear he hz hrx hb
    by_cases hj : i < s1.xs.length + 2
    · obtain ⟨xi, hxi⟩ : ∃ z, z = (Wd :: Ht :: s1.xs).getD i 0 := ⟨_, rfl⟩
      obtain ⟨yi, hyi⟩ : ∃ z, z = (Wd :: Ht :: s0.xs).getD i 0 := ⟨_, rfl⟩
      have HXI := Hd.mk hxi
      have HYI := Hd.mk hyi
      clear hxi hyi
      have HJX : Hd (i < (Wd :: Ht :: s1.xs).length) := ⟨hj⟩
      have hi2 : i < s0.xs.length + 2 := by rw [← HLE.out]; exact hj
      go_upto_region 3 with fail
      refine wp_region_vd 3 [19, 20, 21] [0] [] 84 [.int .i64 0, .int .i64 0] [isV (.int .i64 (((i : Nat) : Int))), isV (.pointer (some (xa.add ((i : Int)).toNat))), isV (.int .i64 xi)] (by rfl) alloc_Z ?_ ?_
      · intro qi qh qA aa wx hb hs hd
        match qi, qh, qA with
        | 0, _, _ => exact .inl ⟨rfl, op_mv rfl (hs 17 rfl)⟩
        | 1, _, _ => exact .inl ⟨rfl, op_run rfl (op_idx (by omega) (by omega) rfl (hs 15 rfl) (hs 17 rfl) _) rfl⟩
        | 2, _, _ => exact .inl ⟨rfl, op_ldAt rfl rfl (hd 1 rfl) (by rw [HXI.out]; exact (HRX.out.to hb).cellq HJX.out)⟩
        | qi + 3, h, _ => omega
      intro vs X1 hb hv hal hne
      replace HB := Hd.mk (bel_then HB.out hb)
      replace HE := Hd.mk (HE.out.to hb)
      have HSZ := Hd.mk hb.size
      replace HRX := Hd.mk (HRX.out.to hb)
      have e19 : vs 19 = .int .i64 (((i : Nat) : Int)) := hv 0 (by decide) rfl
      have e21 : vs 21 = .int .i64 xi := hv 2 (by decide) rfl
      simp only [PA, e19, e21]
      clear hv hal hne hb e19 e21
      have HLO : Hd (w.heap.size + 2 ≤ X1.heap.size) := ⟨(HE.out.get 1 rfl).lt⟩
      have HXL : Hd (xa.block < X1.heap.size) := ⟨by
        obtain ⟨_, e, hc⟩ := HRX.out (by simp)
        cases e
        have := World.block_lt_of_cell? _ _ (hc 0 (by simp))
        rwa [block_of_add] at this⟩
      go_upto_region 4 with fail
      refine wp_region_vd 7 [22, 23, 24, 25, 26, 27, 28] [0, 2, 5] [] 84 [.int .i64 0, .int .i64 0] [isV (.pointer (some ⟨w.heap.size + 1, 0, none⟩)), isV (.int .i64 Wd), isV (.pointer (some ⟨w.heap.size + 1, 1, none⟩)), isV (.int .i64 Ht), isIs X1.heap.size ([Wd, Ht]), isV (.pointer (some ⟨w.heap.size + 1, 2, none⟩)), isV (.slice (some s0d) s0.xs.length s0.k)] (by rfl) alloc_Z ?_ ?_
      · intro qi qh qA aa wx hb hs hd
        match qi, qh, qA with
        | 0, _, _ => exact .inl ⟨rfl, ⟨_, op_faU0 rfl (hs 3 rfl), rfl⟩⟩
        | 1, _, _ => exact .inl ⟨rfl, op_ldI rfl rfl (hd 0 rfl) ((HE.out.to hb).cell 1 0 rfl rfl)⟩
        | 2, _, _ => exact .inl ⟨rfl, ⟨_, op_faU1 rfl (hs 3 rfl), rfl⟩⟩
        | 3, _, _ => exact .inl ⟨rfl, op_ldI rfl rfl (hd 2 rfl) ((HE.out.to hb).cell 1 1 rfl rfl)⟩
        | 4, _, _ => exact .inl ⟨rfl, op_litO2 rfl rfl (hd 1 rfl) (hd 3 rfl) _ hb.size⟩
        | 5, _, _ => exact .inl ⟨rfl, ⟨_, op_faU2 rfl (hs 3 rfl), rfl⟩⟩
        | 6, _, _ => exact .inl ⟨rfl, op_ldS rfl rfl (hd 5 rfl) ((HE.out.to hb).cell 1 2 rfl rfl)⟩
        | qi + 7, h, _ => omega
      intro vs X2 hb hv hal hne
      replace HB := Hd.mk (bel_then HB.out hb)
      replace HE := Hd.mk (HE.out.to hb)
      have HSZ := Hd.mk hb.size
      replace HRX := Hd.mk (HRX.out.to hb)
      have HO : Hd (OwnI X1.heap.size X2 (vs 26) ([Wd, Ht])) := ⟨hv 4 (by decide) rfl⟩
      obtain ⟨A26, k26, e26⟩ := own_lenI HO.out
      rw [e26] at HO
      have e28 : vs 28 = .slice (some s0d) s0.xs.length s0.k := hv 6 (by decide) rfl
      simp only [PA, e26, e28]
      clear hv hal hne hb e26 e28
      have HLS2 : Hd (X1.heap.size ≤ X2.heap.size) := ⟨HSZ.out⟩
      refine wpList_append_any _ rfl (.tmp 26) (.tmp 28) 22 rfl X1.heap.size 3 i0 (.int .i64 0) 1 8 Try.underlying22 hi0 hz0 hz1 hz2 rfl (by decide) (Value.slice A26 [Wd, Ht].length k26) 2 (ints [Wd, Ht]) rfl HO.out _ (some s0d) s0.xs.length s0.k (ints s0.xs) rfl (ri_row (HRs0.out.to HB.out)) (by intro u hu; obtain ⟨x, _, rfl⟩ := List.mem_map.1 hu; rfl) (by unfold maxLen; omega) (by omega) (Nat.le_trans (Nat.le_refl _) HLS2.out) ?_
      intro v1 w1 hown1 hg1 _
      have HOX : OwnI X1.heap.size w1 v1 (Wd :: Ht :: s0.xs) := by
        have h := hown1
        unfold OwnI
        rw [show (Wd :: Ht :: s0.xs).length = 2 + s0.xs.length by simp; omega]
        exact h
      have HB1 := HB.out.grown hg1 (Nat.le_trans (Nat.le_add_right _ 2) (Nat.le_trans HLO.out HLS2.out)) (fun z hz => Nat.le_trans (Nat.le_add_right _ 2) (Nat.le_trans HLO.out (HO.out.lt z hz).1))
      have HE1 := Env.grownBy_ HE.out hg1 (fun e he hz => by
        have h1 := Nat.le_trans HLO.out (HO.out.lt e.g hz.symm).1
        rcases List.mem_cons.1 he with rfl | he
        · exact absurd h1 (by simp)
        rw [List.mem_singleton.1 he] at h1
        exact absurd h1 (by simp))
      obtain ⟨A2, k2, rfl, hry, _, hy3, hy4⟩ := OwnI.cl HOX
      replace HB := Hd.mk HB1
      replace HE := Hd.mk HE1
      have hly : (Wd :: Ht :: s0.xs).length = s0.xs.length + 2 := rfl
      rw [hly]
      rw [hly] at hy3
      clear HB1 HE1 hown1 HOX hly
      obtain ⟨yd, hyd, hcy⟩ := hry.at_ (k := i) hi2
      subst hyd
      rw [← HYI.out] at hcy
      have HRX1 : Hd (RI w1 (some xa) (Wd :: Ht :: s1.xs)) := ⟨ri_grown HRX.out hg1 (fun ad e z hz => by
        cases e
        have h1 := (HO.out.lt z hz).1
        have h2 := HXL.out
        omega)⟩
      clear hry hg1 HO
      by_cases hxy : xi = yi
      · subst hxy
        go_wp2_with fail
        go_roundw
        case rel => exact ⟨i + 1, by omega, by go_num, (fun q hq => by
          by_cases e : q = i
          · rw [e, ← HXI.out, ← HYI.out]
          exact HZ.out q (by omega)), HE.out, HRX1.out, HB.out⟩
        case measure => simp [intOf]; omega
      have HC : Hd (cmpL s1.xs s0.xs = cmpI xi yi) := ⟨by
        have h := cmpL_hit (Wd :: Ht :: s1.xs) (Wd :: Ht :: s0.xs) i HZ.out hj hi2 (by rw [← HXI.out, ← HYI.out]; exact fun e => hxy (cmpI_zero.1 e))
        rw [cmpL_cons, cmpL_cons, ← HXI.out, ← HYI.out] at h
        exact h⟩
      have hne : (xi != yi) = true := by simp [hxy]
      by_cases hlt : xi < yi
      · have HC2 := Hd.mk (HC.out.trans (cmpI_less hlt))
        clear hxy
        go_wp2_with fail
        go_ret
        exact ⟨_, rfl, HB.out, by rw [HC2.out]; rfl⟩
      have HC2 := Hd.mk (HC.out.trans (cmpI_more (by omega)))
      clear hxy
      go_wp2_with fail
      go_ret
      exact ⟨_, rfl, HB.out, by rw [HC2.out]; rfl⟩
    have e1 : i = s1.xs.length + 2 := by omega
    have HC : Hd (cmpL s1.xs s0.xs = 0) := ⟨by
      have h := cmpL_same (Wd :: Ht :: s1.xs) (Wd :: Ht :: s0.xs) (by rw [show (Wd :: Ht :: s1.xs).length = s1.xs.length + 2 from rfl, ← e1]; exact HZ.out) (by simp [HLE.out])
      rw [cmpL_cons, cmpL_cons] at h
      exact h⟩
    clear e1
    go_wp2_with fail
    go_ret
    exact ⟨_, rfl, HB.out, by rw [HC.out]; rfl⟩
end Go.Proofs.Ytddbmckbankmeaa
