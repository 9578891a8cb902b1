/- Part 25 of the texts behind this claim. -/
import Derived.Test.YtddbmckbankmeaaKo11
import Derived.Test.YtddbmckbankmeaaKo24
set_option linter.unusedVariables false
set_option linter.unusedSimpArgs false
namespace Go.Proofs.Ytddbmckbankmeaa
open Go.RowKit
theorem got_us {f lo lo' : Nat} {vs : Array Value} {w : World} {W H : Int} {xss : List (List Int)} (h : lo ≤ lo') (hc : Calls Try.prog f vs w (Got w (isUs lo' W H xss).p)) : Calls Try.prog f vs w (Got w (isUs lo W H xss).p) :=
  hc.mono fun e w' ⟨v, h1, h2, g, k, rest, ts, h4, h5, h6, h7⟩ => ⟨v, h1, h2, g, k, rest, ts, h4, h5, Nat.le_trans h h6, h7⟩
theorem orb_len (W H : Int) (xs : List Int) (ms : List Mv) : (orbL W H xs ms).length ≤ ms.length := by
  have h := len_sub (inferInstanceAs (DecidableEq (List Int))) (l := orbL W H xs ms) (m := ms.map fun m => apM W H m xs) ((orb_rises W H xs ms).imp (fun {a b} h e => by rw [e, cmpL_refl] at h; omega)) (fun z hz => by
    obtain ⟨m, hm, e⟩ := orb_mem.1 hz
    exact List.mem_map.2 ⟨m, hm, e⟩)
  rwa [List.length_map] at h
theorem ms_reads {lo : Nat} {w : World} {v : Value} {ms : List Mv} (h : (isMs lo ms).p v w) : ∃ A k, v = .slice A ms.length k ∧ RdM w A ms := let ⟨A, k, e, r, _⟩ := row_reads h; ⟨A, k, e, r⟩
set_option maxRecDepth 100000 in
set_option maxHeartbeats 1000000 in
theorem SOrb_no (Wd Ht : Int) (A : Option Addr) (k : Nat) (ms : List Mv) (B : Option Addr) (c : Nat) (xs : List Int) (w : World) (hrm : RdM w A ms) (hln : ms.length ≤ 9223372036854775807) (hri : RI w B xs) (hlk : xs.length ≤ c) (hB : B = none → c = 0) (hn : (validB Wd Ht (xs.take 70) && gB Wd Ht (ms.take 521)) = false) :
    Calls Try.prog 11 #[.slice A ms.length k, .agg #[.int .i64 Wd, .int .i64 Ht, .slice B xs.length c]] w (Got w (isV (.bool true)).p) := by
  have HRM := Hd.mk hrm
  have HRI := Hd.mk hri
  have HLK := Hd.mk hlk
  have HBA := Hd.mk hB
  clear hrm hri hlk hB
  have HN := Hd.mk hn
  clear hn
  go_enter Try.func11, Try.ntmps11
  go_upto_region 1 with fail
  obtain ⟨W0, hW0⟩ : ∃ W : World, W = w.alloc (.cells #[.int .i64 Wd, .int .i64 Ht, .slice B xs.length c] 24) := ⟨_, rfl⟩
  rw [← hW0]
  obtain ⟨he, hb⟩ := env_one hW0
  have HE := Hd.mk he
  have HB := Hd.mk hb
  clear he hb hW0
  refine wp_region_vs 10 [15, 16, 17, 18, 19, 14, 20, 21, 5, 6] [0, 5, 6, 7, 8, 9] [] 84 [.int .i64 0, .int .i64 0] [isV (.slice A ms.length k), isSs w.heap.size (ms.take 521), isV (.agg #[.int .i64 Wd, .int .i64 Ht, .slice B xs.length c]), isSt W0.heap.size Wd Ht (xs.take 70), isP (isV (.slice none 0 0)) (isV (.int .i64 2)), isP (isV (.slice none 0 0)) (isV (.int .i64 2)), isV (.slice none 0 0), isV (.int .i64 2), isV (.slice none 0 0), isV (.int .i64 2)] (by kernel_rfl) (by kernel_rfl) (by kernel_rfl) (by rfl) alloc_Z (fun d v c a w h => by cases d <;> exact h) ?_ ?_
  · intro qi qh qA aa wx hb hs hd
    match qi, qh, qA with
    | 0, _, _ => exact op_mv rfl (hs 0 rfl)
    | 1, _, _ => exact op_call1 rfl rfl Try.call30 (by rw [(show aa.eval (.tmp 15) = .slice A ms.length k from (hd 0 rfl))]; exact got_ss (Nat.le_trans HB.out.size hb.size) (moves_got A k ms _ (HRM.out.to (bel_then HB.out hb)) hln))
    | 2, _, _ => exact op_ldU rfl rfl (hs 3 rfl) ((HE.out.to hb).get 0 rfl)
    | 3, _, _ => exact op_call1 rfl rfl Try.call15 (by rw [(show aa.eval (.tmp 17) = .agg #[.int .i64 Wd, .int .i64 Ht, .slice B xs.length c] from (hd 2 rfl))]; exact got_st hb.size (stamps_got Wd Ht B c xs _ (HRI.out.to (bel_then HB.out hb)) HLK.out HBA.out))
    | 4, _, _ => exact op_call2 rfl rfl Try.call45 (by obtain ⟨A', k', e, r, _⟩ := row_reads (hd 1 rfl); obtain ⟨B', c', e2, r2⟩ := rd_st (hd 3 rfl); rw [show aa.eval (.tmp 16) = _ from e, show aa.eval (.tmp 18) = _ from e2]; exact Keeps_no Wd Ht A' k' (ms.take 521) B' c' (xs.take 70) _ r (by rw [List.length_take]; omega) r2 HN.out)
    | 5, _, _ => exact op_mv rfl (hd 4 rfl)
    | 6, _, _ => exact op_fst rfl (hd 5 rfl)
    | 7, _, _ => exact op_snd rfl (hd 5 rfl)
    | 8, _, _ => exact op_asg rfl (hd 6 rfl)
    | 9, _, _ => exact op_asg rfl (hd 7 rfl)
    | qi + 10, h, _ => omega
  intro vs X1 hb hv hal hne
  replace HB := Hd.mk (bel_then HB.out hb)
  replace HE := Hd.mk (HE.out.to hb)
  have e5 : vs 5 = .slice none 0 0 := hv 8 (by decide) rfl
  have e6 : vs 6 = .int .i64 2 := hv 9 (by decide) rfl
  simp only [PA, e5, e6]
  clear hv hal hne hb e5 e6
  go_upto_region 2 with fail
  refine wp_region_vs 10 [23, 24, 25, 26, 27, 22, 28, 29, 7, 8] [0, 5, 6, 7, 8, 9] [] 84 [.int .i64 0, .int .i64 0] [isV (.slice A ms.length k), isSs w.heap.size (ms.take 521), isV (.agg #[.int .i64 Wd, .int .i64 Ht, .slice B xs.length c]), isSt X1.heap.size Wd Ht (xs.take 70), isP (isV (.slice none 0 0)) (isV (.int .i64 2)), isP (isV (.slice none 0 0)) (isV (.int .i64 2)), isV (.slice none 0 0), isV (.int .i64 2), isV (.slice none 0 0), isV (.int .i64 2)] (by kernel_rfl) (by kernel_rfl) (by kernel_rfl) (by rfl) alloc_Z (fun d v c a w h => by cases d <;> exact h) ?_ ?_
  · intro qi qh qA aa wx hb hs hd
    match qi, qh, qA with
    | 0, _, _ => exact op_mv rfl (hs 0 rfl)
    | 1, _, _ => exact op_call1 rfl rfl Try.call30 (by rw [(show aa.eval (.tmp 23) = .slice A ms.length k from (hd 0 rfl))]; exact got_ss (Nat.le_trans HB.out.size hb.size) (moves_got A k ms _ (HRM.out.to (bel_then HB.out hb)) hln))
    | 2, _, _ => exact op_ldU rfl rfl (hs 3 rfl) ((HE.out.to hb).get 0 rfl)
    | 3, _, _ => exact op_call1 rfl rfl Try.call15 (by rw [(show aa.eval (.tmp 25) = .agg #[.int .i64 Wd, .int .i64 Ht, .slice B xs.length c] from (hd 2 rfl))]; exact got_st hb.size (stamps_got Wd Ht B c xs _ (HRI.out.to (bel_then HB.out hb)) HLK.out HBA.out))
    | 4, _, _ => exact op_call2 rfl rfl Try.call44 (by obtain ⟨A', k', e, r, _⟩ := row_reads (hd 1 rfl); obtain ⟨B', c', e2, r2⟩ := rd_st (hd 3 rfl); rw [show aa.eval (.tmp 24) = _ from e, show aa.eval (.tmp 26) = _ from e2]; exact Orbit_no Wd Ht A' k' (ms.take 521) B' c' (xs.take 70) _ r (by rw [List.length_take]; omega) r2 HN.out)
    | 5, _, _ => exact op_mv rfl (hd 4 rfl)
    | 6, _, _ => exact op_fst rfl (hd 5 rfl)
    | 7, _, _ => exact op_snd rfl (hd 5 rfl)
    | 8, _, _ => exact op_asg rfl (hd 6 rfl)
    | 9, _, _ => exact op_asg rfl (hd 7 rfl)
    | qi + 10, h, _ => omega
  intro vs X2 hb hv hal hne
  replace HB := Hd.mk (bel_then HB.out hb)
  replace HE := Hd.mk (HE.out.to hb)
  have e7 : vs 7 = .slice none 0 0 := hv 8 (by decide) rfl
  have e8 : vs 8 = .int .i64 2 := hv 9 (by decide) rfl
  simp only [PA, e7, e8]
  clear hv hal hne hb e7 e8
  go_upto_region 3 with fail
  refine wp_region_vs 9 [31, 32, 33, 34, 35, 30, 36, 37, 9] [0, 5, 6, 7] [8] 27 [.int .i64 0, .int .i64 0, .slice none 0 0] [isV (.slice A ms.length k), isSs w.heap.size (ms.take 521), isV (.agg #[.int .i64 Wd, .int .i64 Ht, .slice B xs.length c]), isSt X2.heap.size Wd Ht (xs.take 70), isP (isV (.agg #[.int .i64 0, .int .i64 0, .slice none 0 0])) (isV (.int .i64 2)), isP (isV (.agg #[.int .i64 0, .int .i64 0, .slice none 0 0])) (isV (.int .i64 2)), isV (.agg #[.int .i64 0, .int .i64 0, .slice none 0 0]), isV (.int .i64 2), SP.any] (by kernel_rfl) (by kernel_rfl) (by kernel_rfl) (by rfl) alloc_T (fun d v c a w h => by cases d <;> exact h) ?_ ?_
  · intro qi qh qA aa wx hb hs hd
    match qi, qh, qA with
    | 0, _, _ => exact op_mv rfl (hs 0 rfl)
    | 1, _, _ => exact op_call1 rfl rfl Try.call30 (by rw [(show aa.eval (.tmp 31) = .slice A ms.length k from (hd 0 rfl))]; exact got_ss (Nat.le_trans HB.out.size hb.size) (moves_got A k ms _ (HRM.out.to (bel_then HB.out hb)) hln))
    | 2, _, _ => exact op_ldU rfl rfl (hs 3 rfl) ((HE.out.to hb).get 0 rfl)
    | 3, _, _ => exact op_call1 rfl rfl Try.call15 (by rw [(show aa.eval (.tmp 33) = .agg #[.int .i64 Wd, .int .i64 Ht, .slice B xs.length c] from (hd 2 rfl))]; exact got_st hb.size (stamps_got Wd Ht B c xs _ (HRI.out.to (bel_then HB.out hb)) HLK.out HBA.out))
    | 4, _, _ => exact op_call2 rfl rfl Try.call46 (by obtain ⟨A', k', e, r, _⟩ := row_reads (hd 1 rfl); obtain ⟨B', c', e2, r2⟩ := rd_st (hd 3 rfl); rw [show aa.eval (.tmp 32) = _ from e, show aa.eval (.tmp 34) = _ from e2]; exact Least_no Wd Ht A' k' (ms.take 521) B' c' (xs.take 70) _ r (by rw [List.length_take]; omega) r2 HN.out)
    | 5, _, _ => exact op_mv rfl (hd 4 rfl)
    | 6, _, _ => exact op_fst rfl (hd 5 rfl)
    | 7, _, _ => exact op_snd rfl (hd 5 rfl)
    | 8, _, h => cases h
    | qi + 9, h, _ => omega
  intro vs X3 hb hv hal hne
  have HL0 := Hd.mk (HE.out.lt)
  have HBW := HB
  replace HB := Hd.mk (bel_then HB.out hb)
  replace HE := Hd.mk (HE.out.to hb)
  have e36 : vs 36 = .agg #[.int .i64 0, .int .i64 0, .slice none 0 0] := hv 6 (by decide) rfl
  have e37 : vs 37 = .int .i64 2 := hv 7 (by decide) rfl
  obtain ⟨g9, e9, l9, b9⟩ : ∃ g, vs 9 = .pointer (some ⟨g, 0, none⟩) ∧ _ := hal 8 rfl
  replace HE : Hd (Env X3 [⟨w.heap.size, 24, [.int .i64 Wd, .int .i64 Ht, .slice B xs.length c]⟩, ⟨g9, 27, [.int .i64 0, .int .i64 0, .slice none 0 0]⟩]) := ⟨Env.addne (e := ⟨g9, 27, [.int .i64 0, .int .i64 0, .slice none 0 0]⟩) HE.out b9 (fun e' he => Nat.ne_of_lt (Nat.lt_of_lt_of_le (HL0.out e' he) l9))⟩
  have G9 : Hd (w.heap.size ≤ g9) := ⟨Nat.le_trans HBW.out.size l9⟩
  simp only [PA, e36, e37, e9]
  clear hv hal hne hb HL0 HBW e36 e37 e9 l9 b9
  refine wpList_st rfl rfl rfl rfl rfl (sto_T (HE.out.get 1 rfl)) ?_
  have HE' : Env (putL X3 g9 0 [.int .i64 0, .int .i64 0, .slice none 0 0]) [⟨w.heap.size, 24, [.int .i64 Wd, .int .i64 Ht, .slice B xs.length c]⟩, ⟨g9, 27, [.int .i64 0, .int .i64 0, .slice none 0 0]⟩] := HE.out.putF 1 rfl rfl
  have HB' := putL_below (show w.heap.size ≤ g9 from G9.out) [.int .i64 0, .int .i64 0, .slice none 0 0] _ 0 HB.out
  generalize putL X3 g9 0 [.int .i64 0, .int .i64 0, .slice none 0 0] = X4 at *
  replace HE := Hd.mk HE'
  replace HB := Hd.mk HB'
  clear HE' HB'
  go_upto_region 4 with fail
  refine wp_region_vd 4 [38, 39, 40, 41] [0, 3] [] 84 [.int .i64 0, .int .i64 0] [isV (.slice A ms.length k), isV (.agg #[.int .i64 Wd, .int .i64 Ht, .slice B xs.length c]), isV (.bool false), isV (.bool true)] (by rfl) alloc_Z ?_ ?_
  · intro qi qh qA aa wx hb hs hd
    match qi, qh, qA with
    | 0, _, _ => exact .inl ⟨rfl, op_mv rfl (hs 0 rfl)⟩
    | 1, _, _ => exact .inl ⟨rfl, op_ldU rfl rfl (hs 3 rfl) ((HE.out.to hb).get 0 rfl)⟩
    | 2, _, _ => exact .inl ⟨rfl, op_call2 rfl rfl Try.call47 (by rw [show aa.eval (.tmp 38) = .slice A ms.length k from (hd 0 rfl), show aa.eval (.tmp 39) = .agg #[.int .i64 Wd, .int .i64 Ht, .slice B xs.length c] from (hd 1 rfl)]; have q := asked_got Wd Ht A k ms B c xs _ (HRM.out.to (bel_then HB.out hb)) hln (HRI.out.to (bel_then HB.out hb)); rw [HN.out] at q; exact q)⟩
    | 3, _, _ => exact .inl ⟨rfl, ⟨_, op_not rfl (hd 2 rfl), rfl⟩⟩
    | qi + 4, h, _ => omega
  intro vs X5 hb hv hal hne
  replace HB := Hd.mk (bel_then HB.out hb)
  replace HE := Hd.mk (HE.out.to hb)
  have e41 : vs 41 = .bool true := hv 3 (by decide) rfl
  simp only [PA, e41]
  clear hv hal hne hb e41
  go_upto_region 5 with fail
  refine wp_region_vd 27 [42, 43, 44, 45, 46, 47, 48, 49, 50, 51, 52, 53, 54, 55, 56, 57, 58, 59, 60, 61, 62, 63, 64, 65, 66, 67, 68] [0, 2, 4, 5, 6, 9, 11, 12, 13, 14, 15, 16, 17, 18, 19, 20, 21, 22, 23, 24, 26] [] 84 [.int .i64 0, .int .i64 0] [isV (.slice none 0 0), isV (.int .i64 (((0 : Nat) : Int))), isV (.slice none 0 0), isV (.int .i64 (((0 : Nat) : Int))), isV (.int .i64 ((((0 : Nat) : Int)) + (((0 : Nat) : Int)))), isV (.bool true), isV (.bool true), isV (.agg #[.int .i64 0, .int .i64 0, .slice none 0 0]), isV (.agg #[.int .i64 0, .int .i64 0, .slice none 0 0]), isV (.agg #[.int .i64 0, .int .i64 0, .slice none 0 0]), isV (.bool true), isV (.bool true), isV (.bool true), isV (.int .i64 2), isV (.bool true), isV (.bool true), isV (.bool true), isV (.int .i64 2), isV (.bool true), isV (.bool true), isV (.bool true), isV (.int .i64 2), isV (.bool true), isV (.bool true), isV (.bool true), isV (.bool true), isV (.bool true)] (by rfl) alloc_Z ?_ ?_
  · intro qi qh qA aa wx hb hs hd
    match qi, qh, qA with
    | 0, _, _ => exact .inl ⟨rfl, op_mv rfl (hs 5 rfl)⟩
    | 1, _, _ => exact .inl ⟨rfl, op_lenvVM rfl rfl (hd 0 rfl)⟩
    | 2, _, _ => exact .inl ⟨rfl, op_mv rfl (hs 7 rfl)⟩
    | 3, _, _ => exact .inl ⟨rfl, op_lenT rfl rfl (hd 2 rfl)⟩
    | 4, _, _ => exact .inl ⟨rfl, ⟨_, op_add (by unfold Fit; omega) rfl (hd 1 rfl) (hd 3 rfl), rfl⟩⟩
    | 5, _, _ => exact .inl ⟨rfl, pure_b (bool_eq (by decide)) (⟨_, op_eqlI rfl (hd 4 rfl) rfl, rfl⟩)⟩
    | 6, _, _ => exact .inl ⟨rfl, op_mv rfl (hd 5 rfl)⟩
    | 7, _, _ => exact .inl ⟨⟨rfl, .inl (hd 6 rfl)⟩, op_ldT rfl rfl (hs 9 rfl) ((HE.out.to hb).get 1 rfl)⟩
    | 8, _, _ => exact .inl ⟨⟨rfl, .inl (hd 6 rfl)⟩, op_call1 rfl rfl Try.call21 (by rw [(show aa.eval (.tmp 49) = .agg #[.int .i64 0, .int .i64 0, .slice none 0 0] from (hd 7 rfl))]; exact own_got 0 0 none 0 0 _)⟩
    | 9, _, _ => exact .inl ⟨⟨rfl, .inl (hd 6 rfl)⟩, ⟨_, op_b0U rfl, rfl⟩⟩
    | 10, _, _ => exact .inl ⟨⟨rfl, .inl (hd 6 rfl)⟩, op_call2 rfl rfl Try.call20 (by rw [show aa.eval (.tmp 50) = _ from hd 8 rfl, show aa.eval (.tmp 51) = _ from hd 9 rfl]; exact same_yes 0 0 ([]) (by simp) _ _ _ ⟨none, 0, rfl, RI.nil _ _⟩ ⟨none, 0, rfl, RI.nil _ _⟩)⟩
    | 11, _, _ => exact .inl ⟨rfl, ⟨_, op_pickT rfl (hd 6 rfl) (hd 10 rfl), rfl⟩⟩
    | 12, _, _ => exact .inl ⟨rfl, op_mv rfl (hd 11 rfl)⟩
    | 13, _, _ => exact .inl ⟨⟨rfl, .inl (hd 12 rfl)⟩, op_mv rfl (hs 6 rfl)⟩
    | 14, _, _ => exact .inl ⟨⟨rfl, .inl (hd 12 rfl)⟩, pure_b (bool_eq (by decide)) (⟨_, op_eqlE rfl (hd 13 rfl) rfl, rfl⟩)⟩
    | 15, _, _ => exact .inl ⟨rfl, ⟨_, op_pickT rfl (hd 12 rfl) (hd 14 rfl), rfl⟩⟩
    | 16, _, _ => exact .inl ⟨rfl, op_mv rfl (hd 15 rfl)⟩
    | 17, _, _ => exact .inl ⟨⟨rfl, .inl (hd 16 rfl)⟩, op_mv rfl (hs 8 rfl)⟩
    | 18, _, _ => exact .inl ⟨⟨rfl, .inl (hd 16 rfl)⟩, pure_b (bool_eq (by decide)) (⟨_, op_eqlE rfl (hd 17 rfl) rfl, rfl⟩)⟩
    | 19, _, _ => exact .inl ⟨rfl, ⟨_, op_pickT rfl (hd 16 rfl) (hd 18 rfl), rfl⟩⟩
    | 20, _, _ => exact .inl ⟨rfl, op_mv rfl (hd 19 rfl)⟩
    | 21, _, _ => exact .inl ⟨⟨rfl, .inl (hd 20 rfl)⟩, op_mv rfl (hs 10 rfl)⟩
    | 22, _, _ => exact .inl ⟨⟨rfl, .inl (hd 20 rfl)⟩, pure_b (bool_eq (by decide)) (⟨_, op_eqlE rfl (hd 21 rfl) rfl, rfl⟩)⟩
    | 23, _, _ => exact .inl ⟨rfl, ⟨_, op_pickT rfl (hd 20 rfl) (hd 22 rfl), rfl⟩⟩
    | 24, _, _ => exact .inl ⟨rfl, op_mv rfl (hd 23 rfl)⟩
    | 25, _, _ => exact .inl ⟨⟨rfl, .inl (hd 24 rfl)⟩, op_call0 rfl rfl Try.call18 (awake_got _)⟩
    | 26, _, _ => exact .inl ⟨rfl, ⟨_, op_pickT rfl (hd 24 rfl) (hd 25 rfl), rfl⟩⟩
    | qi + 27, h, _ => omega
  intro vs X6 hb hv hal hne
  replace HB := Hd.mk (bel_then HB.out hb)
  replace HE := Hd.mk (HE.out.to hb)
  have e68 : vs 68 = .bool true := hv 26 (by decide) rfl
  simp only [PA, e68]
  clear hv hal hne hb e68
  go_wp2_with fail
  go_ret
  exact ⟨_, rfl, HB.out, rfl⟩
set_option maxRecDepth 100000 in
set_option maxHeartbeats 1000000 in
theorem SOrb_yes (Wd Ht : Int) (A : Option Addr) (k : Nat) (ms : List Mv) (B : Option Addr) (c : Nat) (xs : List Int) (w : World) (hrm : RdM w A ms) (hln : ms.length ≤ 9223372036854775807) (hri : RI w B xs) (hlk : xs.length ≤ c) (hB : B = none → c = 0) (hv : validB Wd Ht xs = true) (hg : gB Wd Ht ms = true) :
    Calls Try.prog 11 #[.slice A ms.length k, .agg #[.int .i64 Wd, .int .i64 Ht, .slice B xs.length c]] w (Got w (isV (.bool true)).p) := by
  have h512 := gp_few (valid_size hv) hg
  have hsh := valid_short hv
  have HNZ := Hd.mk (group_nz hg (valid_size hv))
  have HALL := Hd.mk (group_all hg (valid_size hv))
  have HTK := Hd.mk (List.take_of_length_le (show ms.length ≤ 521 by omega))
  have HLN : Hd ((leastL Wd Ht xs ms).length ≤ 1000000) := ⟨least_short (group_nz hg (valid_size hv)) hsh⟩
  have HRM := Hd.mk hrm
  have HRI := Hd.mk hri
  have HLK := Hd.mk hlk
  have HBA := Hd.mk hB
  clear hrm hri hlk hB
  have HV := Hd.mk hv
  have HG := Hd.mk hg
  clear hv hg
  go_enter Try.func11, Try.ntmps11
  go_upto_region 1 with fail
  obtain ⟨W0, hW0⟩ : ∃ W : World, W = w.alloc (.cells #[.int .i64 Wd, .int .i64 Ht, .slice B xs.length c] 24) := ⟨_, rfl⟩
  rw [← hW0]
  obtain ⟨he, hb⟩ := env_one hW0
  have HE := Hd.mk he
  have HB := Hd.mk hb
  clear he hb hW0
  refine wp_region_vs 10 [15, 16, 17, 18, 19, 14, 20, 21, 5, 6] [0, 5, 6, 7, 8, 9] [] 84 [.int .i64 0, .int .i64 0] [isV (.slice A ms.length k), isSs w.heap.size (ms), isV (.agg #[.int .i64 Wd, .int .i64 Ht, .slice B xs.length c]), isSt W0.heap.size Wd Ht xs, isP (isSs W0.heap.size (keepL Wd Ht xs ms)) (isV (.int .i64 0)), isP (isSs W0.heap.size (keepL Wd Ht xs ms)) (isV (.int .i64 0)), isSs W0.heap.size (keepL Wd Ht xs ms), isV (.int .i64 0), isSs W0.heap.size (keepL Wd Ht xs ms), isV (.int .i64 0)] (by kernel_rfl) (by kernel_rfl) (by kernel_rfl) (by rfl) alloc_Z (fun d v c a w h => by cases d <;> exact h) ?_ ?_
  · intro qi qh qA aa wx hb hs hd
    match qi, qh, qA with
    | 0, _, _ => exact op_mv rfl (hs 0 rfl)
    | 1, _, _ => exact op_call1 rfl rfl Try.call30 (by rw [(show aa.eval (.tmp 15) = .slice A ms.length k from (hd 0 rfl))]; exact got_ss (Nat.le_trans HB.out.size hb.size) (moves_all (HRM.out.to (bel_then HB.out hb)) (by omega)))
    | 2, _, _ => exact op_ldU rfl rfl (hs 3 rfl) ((HE.out.to hb).get 0 rfl)
    | 3, _, _ => exact op_call1 rfl rfl Try.call15 (by rw [(show aa.eval (.tmp 17) = .agg #[.int .i64 Wd, .int .i64 Ht, .slice B xs.length c] from (hd 2 rfl))]; exact got_st hb.size (stamps_all (HRI.out.to (bel_then HB.out hb)) HLK.out HBA.out (by omega)))
    | 4, _, _ => exact op_call2 rfl rfl Try.call45 (by obtain ⟨A', k', e, r, _⟩ := row_reads (hd 1 rfl); obtain ⟨B', c', e2, r2⟩ := rd_st (hd 3 rfl); rw [show aa.eval (.tmp 16) = _ from e, show aa.eval (.tmp 18) = _ from e2]; exact got_ssp hb.size (Keeps_ok Wd Ht A' k' ms B' c' xs _ r (by omega) r2 HV.out HG.out))
    | 5, _, _ => exact op_mv rfl (hd 4 rfl)
    | 6, _, _ => exact op_fst rfl (hd 5 rfl)
    | 7, _, _ => exact op_snd rfl (hd 5 rfl)
    | 8, _, _ => exact op_asg rfl (hd 6 rfl)
    | 9, _, _ => exact op_asg rfl (hd 7 rfl)
    | qi + 10, h, _ => omega
  intro vs X1 hb hv hal hne
  replace HB := Hd.mk (bel_then HB.out hb)
  replace HE := Hd.mk (HE.out.to hb)
  have HO : Hd (OwnS W0.heap.size X1 (vs 5) (keepL Wd Ht xs ms)) := ⟨hv 8 (by decide) rfl⟩
  obtain ⟨A5, k5, e5, _⟩ := row_reads HO.out
  rw [e5] at HO
  have e6 : vs 6 = .int .i64 0 := hv 9 (by decide) rfl
  simp only [PA, e5, e6]
  clear hv hal hne hb e5 e6
  go_upto_region 2 with fail
  refine wp_region_vs 10 [23, 24, 25, 26, 27, 22, 28, 29, 7, 8] [0, 5, 6, 7, 8, 9] [] 84 [.int .i64 0, .int .i64 0] [isV (.slice A ms.length k), isSs w.heap.size (ms), isV (.agg #[.int .i64 Wd, .int .i64 Ht, .slice B xs.length c]), isSt X1.heap.size Wd Ht xs, isP (isTs X1.heap.size Wd Ht (orbL Wd Ht xs ms)) (isV (.int .i64 0)), isP (isTs X1.heap.size Wd Ht (orbL Wd Ht xs ms)) (isV (.int .i64 0)), isTs X1.heap.size Wd Ht (orbL Wd Ht xs ms), isV (.int .i64 0), isTs X1.heap.size Wd Ht (orbL Wd Ht xs ms), isV (.int .i64 0)] (by kernel_rfl) (by kernel_rfl) (by kernel_rfl) (by rfl) alloc_Z (fun d v c a w h => by cases d <;> exact h) ?_ ?_
  · intro qi qh qA aa wx hb hs hd
    match qi, qh, qA with
    | 0, _, _ => exact op_mv rfl (hs 0 rfl)
    | 1, _, _ => exact op_call1 rfl rfl Try.call30 (by rw [(show aa.eval (.tmp 23) = .slice A ms.length k from (hd 0 rfl))]; exact got_ss (Nat.le_trans HB.out.size hb.size) (moves_all (HRM.out.to (bel_then HB.out hb)) (by omega)))
    | 2, _, _ => exact op_ldU rfl rfl (hs 3 rfl) ((HE.out.to hb).get 0 rfl)
    | 3, _, _ => exact op_call1 rfl rfl Try.call15 (by rw [(show aa.eval (.tmp 25) = .agg #[.int .i64 Wd, .int .i64 Ht, .slice B xs.length c] from (hd 2 rfl))]; exact got_st hb.size (stamps_all (HRI.out.to (bel_then HB.out hb)) HLK.out HBA.out (by omega)))
    | 4, _, _ => exact op_call2 rfl rfl Try.call44 (by obtain ⟨A', k', e, r, _⟩ := row_reads (hd 1 rfl); obtain ⟨B', c', e2, r2⟩ := rd_st (hd 3 rfl); rw [show aa.eval (.tmp 24) = _ from e, show aa.eval (.tmp 26) = _ from e2]; exact got_ts hb.size (Orbit_ok Wd Ht A' k' ms B' c' xs _ r (by omega) r2 HV.out HG.out))
    | 5, _, _ => exact op_mv rfl (hd 4 rfl)
    | 6, _, _ => exact op_fst rfl (hd 5 rfl)
    | 7, _, _ => exact op_snd rfl (hd 5 rfl)
    | 8, _, _ => exact op_asg rfl (hd 6 rfl)
    | 9, _, _ => exact op_asg rfl (hd 7 rfl)
    | qi + 10, h, _ => omega
  intro vs X2 hb hv hal hne
  have HL0 := Hd.mk (HE.out.lt)
  have HBW := HB
  replace HB := Hd.mk (bel_then HB.out hb)
  replace HE := Hd.mk (HE.out.to hb)
  have HOL := Hd.mk HO.out.lt
  replace HO := Hd.mk (HO.out.to hb)
  obtain ⟨gO, kO, restO, tsO, e7, hmO, l7, b7, okO⟩ : (isTs X1.heap.size Wd Ht (orbL Wd Ht xs ms)).p (vs 7) X2 := hv 8 (by decide) rfl
  replace HE : Hd (Env X2 [⟨w.heap.size, 24, [.int .i64 Wd, .int .i64 Ht, .slice B xs.length c]⟩, ⟨gO, 27, tsO.flatMap (encT Wd Ht) ++ restO⟩]) := ⟨Env.addne (e := ⟨gO, 27, tsO.flatMap (encT Wd Ht) ++ restO⟩) HE.out b7 (fun e' he => Nat.ne_of_lt (Nat.lt_of_lt_of_le (HL0.out e' he) l7))⟩
  have HMO := Hd.mk hmO
  have OKO := Hd.mk okO
  have G7 : Hd (w.heap.size ≤ gO) := ⟨Nat.le_trans HBW.out.size l7⟩
  clear hmO okO l7 b7
  have e8 : vs 8 = .int .i64 0 := hv 9 (by decide) rfl
  simp only [PA, e7, e8]
  clear hv hal hne hb HL0 HBW e7 e8 HOL
  go_upto_region 3 with fail
  refine wp_region_vs 9 [31, 32, 33, 34, 35, 30, 36, 37, 9] [0, 5, 6, 7] [8] 27 [.int .i64 0, .int .i64 0, .slice none 0 0] [isV (.slice A ms.length k), isSs w.heap.size (ms), isV (.agg #[.int .i64 Wd, .int .i64 Ht, .slice B xs.length c]), isSt X2.heap.size Wd Ht xs, isP (okS Wd Ht (leastL Wd Ht xs ms)) (isV (.int .i64 0)), isP (okS Wd Ht (leastL Wd Ht xs ms)) (isV (.int .i64 0)), okS Wd Ht (leastL Wd Ht xs ms), isV (.int .i64 0), SP.any] (by kernel_rfl) (by kernel_rfl) (by kernel_rfl) (by rfl) alloc_T (fun d v c a w h => by cases d <;> exact h) ?_ ?_
  · intro qi qh qA aa wx hb hs hd
    match qi, qh, qA with
    | 0, _, _ => exact op_mv rfl (hs 0 rfl)
    | 1, _, _ => exact op_call1 rfl rfl Try.call30 (by rw [(show aa.eval (.tmp 31) = .slice A ms.length k from (hd 0 rfl))]; exact got_ss (Nat.le_trans HB.out.size hb.size) (moves_all (HRM.out.to (bel_then HB.out hb)) (by omega)))
    | 2, _, _ => exact op_ldU rfl rfl (hs 3 rfl) ((HE.out.to hb).get 0 rfl)
    | 3, _, _ => exact op_call1 rfl rfl Try.call15 (by rw [(show aa.eval (.tmp 33) = .agg #[.int .i64 Wd, .int .i64 Ht, .slice B xs.length c] from (hd 2 rfl))]; exact got_st hb.size (stamps_all (HRI.out.to (bel_then HB.out hb)) HLK.out HBA.out (by omega)))
    | 4, _, _ => exact op_call2 rfl rfl Try.call46 (by obtain ⟨A', k', e, r, _⟩ := row_reads (hd 1 rfl); obtain ⟨B', c', e2, r2⟩ := rd_st (hd 3 rfl); rw [show aa.eval (.tmp 32) = _ from e, show aa.eval (.tmp 34) = _ from e2]; exact Least_ok Wd Ht A' k' ms B' c' xs _ r (by omega) r2 HV.out HG.out)
    | 5, _, _ => exact op_mv rfl (hd 4 rfl)
    | 6, _, _ => exact op_fst rfl (hd 5 rfl)
    | 7, _, _ => exact op_snd rfl (hd 5 rfl)
    | 8, _, h => cases h
    | qi + 9, h, _ => omega
  intro vs X3 hb hv hal hne
  have HL0 := Hd.mk (HE.out.lt)
  have HBW := HB
  replace HB := Hd.mk (bel_then HB.out hb)
  replace HE := Hd.mk (HE.out.to hb)
  replace OKO := Hd.mk (OKO.out.to hb)
  have HOL := Hd.mk HO.out.lt
  replace HO := Hd.mk (HO.out.to hb)
  obtain ⟨sL, hxL, e36, okL⟩ : (okS Wd Ht (leastL Wd Ht xs ms)).p (vs 36) X3 := hv 6 (by decide) rfl
  have HXL := Hd.mk hxL
  have OKL := Hd.mk (OkT.one okL)
  clear hxL okL
  have e37 : vs 37 = .int .i64 0 := hv 7 (by decide) rfl
  obtain ⟨g9, e9, l9, b9⟩ : ∃ g, vs 9 = .pointer (some ⟨g, 0, none⟩) ∧ _ := hal 8 rfl
  replace HE : Hd (Env X3 [⟨w.heap.size, 24, [.int .i64 Wd, .int .i64 Ht, .slice B xs.length c]⟩, ⟨gO, 27, tsO.flatMap (encT Wd Ht) ++ restO⟩, ⟨g9, 27, [.int .i64 0, .int .i64 0, .slice none 0 0]⟩]) := ⟨Env.addne (e := ⟨g9, 27, [.int .i64 0, .int .i64 0, .slice none 0 0]⟩) HE.out b9 (fun e' he => Nat.ne_of_lt (Nat.lt_of_lt_of_le (HL0.out e' he) l9))⟩
  have HOG9 : Hd (∀ k, (Value.slice A5 (keepL Wd Ht xs ms).length k5).ownBlock = some k → k < g9) := ⟨fun k hk => Nat.lt_of_lt_of_le (HOL.out k hk).2 l9⟩
  have G9 : Hd (w.heap.size ≤ g9) := ⟨Nat.le_trans HBW.out.size l9⟩
  simp only [PA, e36, e37, e9]
  clear hv hal hne hb HL0 HBW e36 e37 e9 l9 b9 HOL
  refine wpList_st rfl rfl rfl rfl rfl (sto_T (HE.out.get 2 rfl)) ?_
  have HE' : Env (putL X3 g9 0 [.int .i64 Wd, .int .i64 Ht, .slice sL.A sL.xs.length sL.k]) [⟨w.heap.size, 24, [.int .i64 Wd, .int .i64 Ht, .slice B xs.length c]⟩, ⟨gO, 27, tsO.flatMap (encT Wd Ht) ++ restO⟩, ⟨g9, 27, [.int .i64 Wd, .int .i64 Ht, .slice sL.A sL.xs.length sL.k]⟩] := HE.out.putF 2 rfl rfl
  have HB' := putL_below (show w.heap.size ≤ g9 from G9.out) [.int .i64 Wd, .int .i64 Ht, .slice sL.A sL.xs.length sL.k] _ 0 HB.out
  replace OKO := Hd.mk (OKO.out.putB (vs := [.int .i64 Wd, .int .i64 Ht, .slice sL.A sL.xs.length sL.k]) (o := 0) (HE.out.get 2 rfl))
  replace OKL := Hd.mk (OKL.out.putB (vs := [.int .i64 Wd, .int .i64 Ht, .slice sL.A sL.xs.length sL.k]) (o := 0) (HE.out.get 2 rfl))
  replace HO := Hd.mk (HO.out.put (vs := [.int .i64 Wd, .int .i64 Ht, .slice sL.A sL.xs.length sL.k]) (o := 0) HOG9.out)
  generalize putL X3 g9 0 [.int .i64 Wd, .int .i64 Ht, .slice sL.A sL.xs.length sL.k] = X4 at *
  replace HE := Hd.mk HE'
  replace HB := Hd.mk HB'
  clear HE' HB'
  go_upto_region 4 with fail
  refine wp_region_vd 4 [38, 39, 40, 41] [0, 3] [] 84 [.int .i64 0, .int .i64 0] [isV (.slice A ms.length k), isV (.agg #[.int .i64 Wd, .int .i64 Ht, .slice B xs.length c]), isV (.bool true), isV (.bool false)] (by rfl) alloc_Z ?_ ?_
  · intro qi qh qA aa wx hb hs hd
    match qi, qh, qA with
    | 0, _, _ => exact .inl ⟨rfl, op_mv rfl (hs 0 rfl)⟩
    | 1, _, _ => exact .inl ⟨rfl, op_ldU rfl rfl (hs 3 rfl) ((HE.out.to hb).get 0 rfl)⟩
    | 2, _, _ => exact .inl ⟨rfl, op_call2 rfl rfl Try.call47 (by rw [show aa.eval (.tmp 38) = .slice A ms.length k from (hd 0 rfl), show aa.eval (.tmp 39) = .agg #[.int .i64 Wd, .int .i64 Ht, .slice B xs.length c] from (hd 1 rfl)]; have q := asked_got Wd Ht A k ms B c xs _ (HRM.out.to (bel_then HB.out hb)) (by omega) (HRI.out.to (bel_then HB.out hb)); rw [HTK.out, valid_take, HV.out, HG.out] at q; exact q)⟩
    | 3, _, _ => exact .inl ⟨rfl, ⟨_, op_not rfl (hd 2 rfl), rfl⟩⟩
    | qi + 4, h, _ => omega
  intro vs X5 hb hv hal hne
  replace HB := Hd.mk (bel_then HB.out hb)
  replace HE := Hd.mk (HE.out.to hb)
  replace OKO := Hd.mk (OKO.out.to hb)
  replace OKL := Hd.mk (OKL.out.to hb)
  have HOL := Hd.mk HO.out.lt
  replace HO := Hd.mk (HO.out.to hb)
  have e41 : vs 41 = .bool false := hv 3 (by decide) rfl
  simp only [PA, e41]
  clear hv hal hne hb e41 HOL
  go_upto_region 6 with fail
  refine wp_region_vd 3 [69, 70, 71] [0] [] 84 [.int .i64 0, .int .i64 0] [isV (.slice A ms.length k), isV (.agg #[.int .i64 Wd, .int .i64 Ht, .slice B xs.length c]), isUs X5.heap.size Wd Ht (orbL Wd Ht xs ms)] (by rfl) alloc_Z ?_ ?_
  · intro qi qh qA aa wx hb hs hd
    match qi, qh, qA with
    | 0, _, _ => exact .inl ⟨rfl, op_mv rfl (hs 0 rfl)⟩
    | 1, _, _ => exact .inl ⟨rfl, op_ldU rfl rfl (hs 3 rfl) ((HE.out.to hb).get 0 rfl)⟩
    | 2, _, _ => exact .inl ⟨rfl, op_call2 rfl rfl Try.call48 (by rw [(show aa.eval (.tmp 69) = .slice A ms.length k from (hd 0 rfl)), (show aa.eval (.tmp 70) = .agg #[.int .i64 Wd, .int .i64 Ht, .slice B xs.length c] from (hd 1 rfl))]; exact got_us hb.size (rOrbit_got Wd Ht A k ms B c xs _ (HRM.out.to (bel_then HB.out hb)) (by omega) (HRI.out.to (bel_then HB.out hb)) HV.out HALL.out HNZ.out))⟩
    | qi + 3, h, _ => omega
  intro vs X6 hb hv hal hne
  have HL0 := Hd.mk (HE.out.lt)
  have HBW := HB
  replace HB := Hd.mk (bel_then HB.out hb)
  replace HE := Hd.mk (HE.out.to hb)
  replace OKO := Hd.mk (OKO.out.to hb)
  replace OKL := Hd.mk (OKL.out.to hb)
  have HOL := Hd.mk HO.out.lt
  replace HO := Hd.mk (HO.out.to hb)
  obtain ⟨gR, kR, restR, tsR, e71, hmR, l71, b71, okR⟩ : (isUs X5.heap.size Wd Ht (orbL Wd Ht xs ms)).p (vs 71) X6 := hv 2 (by decide) rfl
  replace HE : Hd (Env X6 [⟨w.heap.size, 24, [.int .i64 Wd, .int .i64 Ht, .slice B xs.length c]⟩, ⟨gO, 27, tsO.flatMap (encT Wd Ht) ++ restO⟩, ⟨g9, 27, [.int .i64 Wd, .int .i64 Ht, .slice sL.A sL.xs.length sL.k]⟩, ⟨gR, 24, tsR.flatMap (encT Wd Ht) ++ restR⟩]) := ⟨Env.addne (e := ⟨gR, 24, tsR.flatMap (encT Wd Ht) ++ restR⟩) HE.out b71 (fun e' he => Nat.ne_of_lt (Nat.lt_of_lt_of_le (HL0.out e' he) l71))⟩
  have HMR := Hd.mk hmR
  have OKR := Hd.mk okR
  have G71 : Hd (w.heap.size ≤ gR) := ⟨Nat.le_trans HBW.out.size l71⟩
  clear hmR okR l71 b71
  simp only [PA, e71]
  clear hv hal hne hb HL0 HBW e71 HOL
  have HLO : Hd (tsO.length = (orbL Wd Ht xs ms).length) := ⟨by rw [← HMO.out, List.length_map]⟩
  have HLR : Hd (tsR.length = (orbL Wd Ht xs ms).length) := ⟨by rw [← HMR.out, List.length_map]⟩
  have HKS : Hd ((keepL Wd Ht xs ms).length ≤ 100000) := ⟨Nat.le_trans (List.length_filter_le _ _) (by omega)⟩
  have htO : tsO.length ≤ 512 := by rw [HLO.out]; exact Nat.le_trans (orb_len _ _ _ _) h512
  go_upto_region 7 with fail
  refine wp_region_vd 17 [72, 73, 74, 75, 76, 77, 78, 79, 80, 81, 82, 83, 84, 85, 86, 87, 88] [0, 1, 2, 3, 4, 5, 6, 7, 8, 9, 10, 11, 13, 15, 16] [] 84 [.int .i64 0, .int .i64 0] [isV (.int .i64 0), isV (.bool false), isV (.bool false), isV (.int .i64 0), isV (.bool false), isV (.bool false), isV (.bool false), isV (.int .i64 0), isV (.bool false), isV (.bool false), isV (.bool false), isV (.slice (some ⟨gO, 0, none⟩) tsO.length kO), isV (.int .i64 (((tsO.length : Nat) : Int))), isV (.slice (some ⟨gR, 0, none⟩) tsR.length kR), isV (.int .i64 (((tsR.length : Nat) : Int))), isV (.bool false), isV (.bool false)] (by rfl) alloc_Z ?_ ?_
  · intro qi qh qA aa wx hb hs hd
    match qi, qh, qA with
    | 0, _, _ => exact .inl ⟨rfl, op_mv rfl (hs 6 rfl)⟩
    | 1, _, _ => exact .inl ⟨rfl, pure_b (bool_eq (by decide)) (⟨_, op_neqE rfl (hd 0 rfl) rfl, rfl⟩)⟩
    | 2, _, _ => exact .inl ⟨rfl, op_mv rfl (hd 1 rfl)⟩
    | 3, _, _ => exact .inl ⟨⟨rfl, .inl (hd 2 rfl)⟩, op_mv rfl (hs 8 rfl)⟩
    | 4, _, _ => exact .inl ⟨⟨rfl, .inl (hd 2 rfl)⟩, pure_b (bool_eq (by decide)) (⟨_, op_neqE rfl (hd 3 rfl) rfl, rfl⟩)⟩
    | 5, _, _ => exact .inl ⟨rfl, ⟨_, op_pickF rfl (hd 2 rfl) (hd 4 rfl), rfl⟩⟩
    | 6, _, _ => exact .inl ⟨rfl, op_mv rfl (hd 5 rfl)⟩
    | 7, _, _ => exact .inl ⟨⟨rfl, .inl (hd 6 rfl)⟩, op_mv rfl (hs 10 rfl)⟩
    | 8, _, _ => exact .inl ⟨⟨rfl, .inl (hd 6 rfl)⟩, pure_b (bool_eq (by decide)) (⟨_, op_neqE rfl (hd 7 rfl) rfl, rfl⟩)⟩
    | 9, _, _ => exact .inl ⟨rfl, ⟨_, op_pickF rfl (hd 6 rfl) (hd 8 rfl), rfl⟩⟩
    | 10, _, _ => exact .inl ⟨rfl, op_mv rfl (hd 9 rfl)⟩
    | 11, _, _ => exact .inl ⟨⟨rfl, .inl (hd 10 rfl)⟩, op_mv rfl (hs 7 rfl)⟩
    | 12, _, _ => exact .inl ⟨⟨rfl, .inl (hd 10 rfl)⟩, op_lenT rfl rfl (hd 11 rfl)⟩
    | 13, _, _ => exact .inl ⟨⟨rfl, .inl (hd 10 rfl)⟩, op_mv rfl (hs 11 rfl)⟩
    | 14, _, _ => exact .inl ⟨⟨rfl, .inl (hd 10 rfl)⟩, op_lenU rfl rfl (hd 13 rfl)⟩
    | 15, _, _ => exact .inl ⟨⟨rfl, .inl (hd 10 rfl)⟩, pure_b (bool_eq (by rw [HLO.out, HLR.out]; simp)) (⟨_, op_neqI rfl (hd 12 rfl) (hd 14 rfl), rfl⟩)⟩
    | 16, _, _ => exact .inl ⟨rfl, ⟨_, op_pickF rfl (hd 10 rfl) (hd 15 rfl), rfl⟩⟩
    | qi + 17, h, _ => omega
  intro vs X7 hb hv hal hne
  replace HB := Hd.mk (bel_then HB.out hb)
  replace HE := Hd.mk (HE.out.to hb)
  replace OKO := Hd.mk (OKO.out.to hb)
  replace OKL := Hd.mk (OKL.out.to hb)
  replace OKR := Hd.mk (OKR.out.to hb)
  have HOL := Hd.mk HO.out.lt
  replace HO := Hd.mk (HO.out.to hb)
  have e88 : vs 88 = .bool false := hv 16 (by decide) rfl
  simp only [PA, e88]
  clear hv hal hne hb e88 HOL
  go_upto_region 9 with fail
  refine wp_region_vd 3 [89, 90, 91] [0, 2] [] 84 [.int .i64 0, .int .i64 0] [isV (.slice (some ⟨gO, 0, none⟩) tsO.length kO), isV (.int .i64 (((tsO.length : Nat) : Int))), isV (.int .i64 0)] (by rfl) alloc_Z ?_ ?_
  · intro qi qh qA aa wx hb hs hd
    match qi, qh, qA with
    | 0, _, _ => exact .inl ⟨rfl, op_mv rfl (hs 7 rfl)⟩
    | 1, _, _ => exact .inl ⟨rfl, op_lenT rfl rfl (hd 0 rfl)⟩
    | 2, _, _ => exact .inl ⟨rfl, op_mv rfl rfl⟩
    | qi + 3, h, _ => omega
  intro vs X8 hb hv hal hne
  replace HB := Hd.mk (bel_then HB.out hb)
  replace HE := Hd.mk (HE.out.to hb)
  replace OKO := Hd.mk (OKO.out.to hb)
  replace OKL := Hd.mk (OKL.out.to hb)
  replace OKR := Hd.mk (OKR.out.to hb)
  have HOL := Hd.mk HO.out.lt
  replace HO := Hd.mk (HO.out.to hb)
  have e89 : vs 89 = .slice (some ⟨gO, 0, none⟩) tsO.length kO := hv 0 (by decide) rfl
  have e90 : vs 90 = .int .i64 (((tsO.length : Nat) : Int)) := hv 1 (by decide) rfl
  have e91 : vs 91 = .int .i64 0 := hv 2 (by decide) rfl
  simp only [PA, e89, e90, e91]
  clear hv hal hne hb e89 e90 e91 HOL
  go_wp2_with fail
  go_loopw [91] (fun s91 wr => ∃ i : Nat, i ≤ tsO.length ∧ s91 = .int .i64 i ∧ Env wr [⟨w.heap.size, 24, [.int .i64 Wd, .int .i64 Ht, .slice B xs.length c]⟩, ⟨gO, 27, tsO.flatMap (encT Wd Ht) ++ restO⟩, ⟨g9, 27, [.int .i64 Wd, .int .i64 Ht, .slice sL.A sL.xs.length sL.k]⟩, ⟨gR, 24, tsR.flatMap (encT Wd Ht) ++ restR⟩] ∧ OkT wr tsO ∧ OkT wr [sL] ∧ OkT wr tsR ∧ OwnS W0.heap.size wr (Value.slice A5 (keepL Wd Ht xs ms).length k5) (keepL Wd Ht xs ms) ∧ Below w.heap.size w wr) (fun s91 _ => tsO.length - (intOf s91).toNat)
  case atStart => exact ⟨0, Nat.zero_le _, rfl, HE.out, OKO.out, OKL.out, OKR.out, HO.out, HB.out⟩
  case round =>
    obtain ⟨i, hi, rfl, he, ho, hl, hr, hs, hb⟩ := hrel
    clear HB HE OKO OKL OKR HO
    have HB := Hd.mk hb
    have OKO := Hd.mk ho
    have OKL := Hd.mk hl
    have OKR := Hd.mk hr
    have HO := Hd.mk hs
    have HE : Hd (Env wr [⟨w.heap.size, 24, [.int .i64 Wd, .int .i64 Ht, .slice B xs.length c]⟩, ⟨gO, 27, tsO.flatMap (encT Wd Ht) ++ restO⟩, ⟨g9, 27, [.int .i64 Wd, .int .i64 Ht, .slice sL.A sL.xs.length sL.k]⟩, ⟨gR, 24, tsR.flatMap (encT Wd Ht) ++ restR⟩]) := ⟨he⟩
    clear he ho hl hr hs hb
    by_cases hj : i < tsO.length
    · obtain ⟨sX, hsX⟩ : ∃ s, tsO[i]? = some s := ⟨_, List.getElem?_eq_getElem hj⟩
      have hjr : i < tsR.length := by rw [HLR.out, ← HLO.out]; exact hj
      obtain ⟨sQ, hsQ⟩ : ∃ s, tsR[i]? = some s := ⟨_, List.getElem?_eq_getElem hjr⟩
      have HSX := Hd.mk hsX
      have HSQ := Hd.mk hsQ
      have HXQ : Hd (sX.xs = sQ.xs) := ⟨by
        have h1 : (tsO.map Sl.xs)[i]? = (tsR.map Sl.xs)[i]? := by rw [HMO.out, HMR.out]
        rw [List.getElem?_map, List.getElem?_map, hsX, hsQ] at h1
        exact Option.some.inj h1⟩
      have HLQ : Hd (sQ.xs.length ≤ 1000000) := ⟨(OKR.out sQ (List.mem_of_getElem? hsQ)).2⟩
      clear hsX hsQ
      go_upto_region 11 with fail
      refine wp_region_vd 4 [93, 94, 95, 13] [0] [3] 27 [.int .i64 0, .int .i64 0, .slice none 0 0] [isV (.int .i64 (((i : Nat) : Int))), isV (.pointer (some ⟨gO, 0 + i * 3, none⟩)), isV (.agg #[.int .i64 Wd, .int .i64 Ht, .slice sX.A sX.xs.length sX.k]), SP.any] (by rfl) alloc_T ?_ ?_
      · intro qi qh qA aa wx hb hs hd
        match qi, qh, qA with
        | 0, _, _ => exact .inl ⟨rfl, op_mv rfl (hs 91 rfl)⟩
        | 1, _, _ => exact .inl ⟨rfl, op_run rfl (op_idxT hj rfl (hs 89 rfl) (hs 91 rfl) _) rfl⟩
        | 2, _, _ => exact .inl ⟨rfl, op_ldvT rfl rfl (hd 1 rfl) (by rw [Nat.zero_add]; exact tcell_ld ((HE.out.to hb).get 1 rfl) HSX.out)⟩
        | 3, _, h => cases h
        | qi + 4, h, _ => omega
      intro vs X1 hb hv hal hne
      have HL0 := Hd.mk (HE.out.lt)
      have HBW := HB
      replace HB := Hd.mk (bel_then HB.out hb)
      replace HE := Hd.mk (HE.out.to hb)
      replace OKO := Hd.mk (OKO.out.to hb)
      replace OKL := Hd.mk (OKL.out.to hb)
      replace OKR := Hd.mk (OKR.out.to hb)
      have HOL := Hd.mk HO.out.lt
      replace HO := Hd.mk (HO.out.to hb)
      have e93 : vs 93 = .int .i64 (((i : Nat) : Int)) := hv 0 (by decide) rfl
      have e95 : vs 95 = .agg #[.int .i64 Wd, .int .i64 Ht, .slice sX.A sX.xs.length sX.k] := hv 2 (by decide) rfl
      obtain ⟨g13, e13, l13, b13⟩ : ∃ g, vs 13 = .pointer (some ⟨g, 0, none⟩) ∧ _ := hal 3 rfl
      replace HE : Hd (Env X1 [⟨w.heap.size, 24, [.int .i64 Wd, .int .i64 Ht, .slice B xs.length c]⟩, ⟨gO, 27, tsO.flatMap (encT Wd Ht) ++ restO⟩, ⟨g9, 27, [.int .i64 Wd, .int .i64 Ht, .slice sL.A sL.xs.length sL.k]⟩, ⟨gR, 24, tsR.flatMap (encT Wd Ht) ++ restR⟩, ⟨g13, 27, [.int .i64 0, .int .i64 0, .slice none 0 0]⟩]) := ⟨Env.addne (e := ⟨g13, 27, [.int .i64 0, .int .i64 0, .slice none 0 0]⟩) HE.out b13 (fun e' he => Nat.ne_of_lt (Nat.lt_of_lt_of_le (HL0.out e' he) l13))⟩
      have HOG13 : Hd (∀ k, (Value.slice A5 (keepL Wd Ht xs ms).length k5).ownBlock = some k → k < g13) := ⟨fun k hk => Nat.lt_of_lt_of_le (HOL.out k hk).2 l13⟩
      have G13 : Hd (w.heap.size ≤ g13) := ⟨Nat.le_trans HBW.out.size l13⟩
      simp only [PA, e93, e95, e13]
      clear hv hal hne hb HL0 HBW e93 e95 e13 l13 b13 HOL
      refine wpList_run rfl (op_asgE (v := .int .i64 (((i : Nat) : Int))) rfl rfl _) ?_
      simp only [Act.put, List.setIfInBounds_toArray, List.set_cons_succ, List.set_cons_zero]
      refine wpList_st rfl rfl rfl rfl rfl (sto_T (HE.out.get 4 rfl)) ?_
      have HE' : Env (putL X1 g13 0 [.int .i64 Wd, .int .i64 Ht, .slice sX.A sX.xs.length sX.k]) [⟨w.heap.size, 24, [.int .i64 Wd, .int .i64 Ht, .slice B xs.length c]⟩, ⟨gO, 27, tsO.flatMap (encT Wd Ht) ++ restO⟩, ⟨g9, 27, [.int .i64 Wd, .int .i64 Ht, .slice sL.A sL.xs.length sL.k]⟩, ⟨gR, 24, tsR.flatMap (encT Wd Ht) ++ restR⟩, ⟨g13, 27, [.int .i64 Wd, .int .i64 Ht, .slice sX.A sX.xs.length sX.k]⟩] := HE.out.putF 4 rfl rfl
      have HB' := putL_below (show w.heap.size ≤ g13 from G13.out) [.int .i64 Wd, .int .i64 Ht, .slice sX.A sX.xs.length sX.k] _ 0 HB.out
      replace OKO := Hd.mk (OKO.out.putB (vs := [.int .i64 Wd, .int .i64 Ht, .slice sX.A sX.xs.length sX.k]) (o := 0) (HE.out.get 4 rfl))
      replace OKL := Hd.mk (OKL.out.putB (vs := [.int .i64 Wd, .int .i64 Ht, .slice sX.A sX.xs.length sX.k]) (o := 0) (HE.out.get 4 rfl))
      replace OKR := Hd.mk (OKR.out.putB (vs := [.int .i64 Wd, .int .i64 Ht, .slice sX.A sX.xs.length sX.k]) (o := 0) (HE.out.get 4 rfl))
      replace HO := Hd.mk (HO.out.put (vs := [.int .i64 Wd, .int .i64 Ht, .slice sX.A sX.xs.length sX.k]) (o := 0) HOG13.out)
      generalize putL X1 g13 0 [.int .i64 Wd, .int .i64 Ht, .slice sX.A sX.xs.length sX.k] = X2 at *
      replace HE := Hd.mk HE'
      replace HB := Hd.mk HB'
      clear HE' HB'
      go_upto_region 12 with fail
      refine wp_region_vs 8 [96, 97, 98, 99, 100, 101, 102, 103] [2, 3, 7] [] 84 [.int .i64 0, .int .i64 0] [isV (.agg #[.int .i64 Wd, .int .i64 Ht, .slice sX.A sX.xs.length sX.k]), isV (.agg #[.int .i64 Wd, .int .i64 Ht, .slice sX.A sX.xs.length sX.k]), isV (.slice (some ⟨gR, 0, none⟩) tsR.length kR), isV (.int .i64 (((i : Nat) : Int))), isV (.pointer (some ⟨gR, 0 + i * 3, none⟩)), isV (.agg #[.int .i64 Wd, .int .i64 Ht, .slice sQ.A sQ.xs.length sQ.k]), isV (.bool true), isV (.bool false)] (by kernel_rfl) (by kernel_rfl) (by kernel_rfl) (by rfl) alloc_Z (fun d v c a w h => by cases d <;> exact h) ?_ ?_
      · intro qi qh qA aa wx hb hs hd
        match qi, qh, qA with
        | 0, _, _ => exact op_ldT rfl rfl (hs 13 rfl) ((HE.out.to hb).get 4 rfl)
        | 1, _, _ => exact op_call1 rfl rfl Try.call21 (by rw [(show aa.eval (.tmp 96) = .agg #[.int .i64 Wd, .int .i64 Ht, .slice sX.A sX.xs.length sX.k] from (hd 0 rfl))]; exact own_got Wd Ht sX.A sX.xs.length sX.k _)
        | 2, _, _ => exact op_mv rfl (hs 11 rfl)
        | 3, _, _ => exact op_mv rfl (hs 12 rfl)
        | 4, _, _ => exact op_run rfl (op_idxU hjr rfl (hd 2 rfl) (hd 3 rfl) _) rfl
        | 5, _, _ => exact op_ldvU rfl rfl (hd 4 rfl) (by rw [Nat.zero_add]; exact tcell_ld ((HE.out.to hb).get 3 rfl) HSQ.out)
        | 6, _, _ => exact op_call2 rfl rfl Try.call20 (by rw [show aa.eval (.tmp 97) = _ from hd 1 rfl, show aa.eval (.tmp 101) = _ from hd 5 rfl]; exact same_yes Wd Ht (sQ.xs) HLQ.out _ _ _ (rd_ok ((OKO.out sX (List.mem_of_getElem? HSX.out)).to hb) HXQ.out) (rd_ok ((OKR.out sQ (List.mem_of_getElem? HSQ.out)).to hb) rfl))
        | 7, _, _ => exact ⟨_, op_not rfl (hd 6 rfl), rfl⟩
        | qi + 8, h, _ => omega
      intro vs X3 hb hv hal hne
      replace HB := Hd.mk (bel_then HB.out hb)
      replace HE := Hd.mk (HE.out.to hb)
      replace OKO := Hd.mk (OKO.out.to hb)
      replace OKL := Hd.mk (OKL.out.to hb)
      replace OKR := Hd.mk (OKR.out.to hb)
      have HOL := Hd.mk HO.out.lt
      replace HO := Hd.mk (HO.out.to hb)
      have e103 : vs 103 = .bool false := hv 7 (by decide) rfl
      simp only [PA, e103]
      clear hv hal hne hb e103 HOL
      go_wp2_with fail
      go_roundw
      case rel => exact ⟨i + 1, by omega, by go_num, Env.front (L := [⟨w.heap.size, 24, [.int .i64 Wd, .int .i64 Ht, .slice B xs.length c]⟩, ⟨gO, 27, tsO.flatMap (encT Wd Ht) ++ restO⟩, ⟨g9, 27, [.int .i64 Wd, .int .i64 Ht, .slice sL.A sL.xs.length sL.k]⟩, ⟨gR, 24, tsR.flatMap (encT Wd Ht) ++ restR⟩]) HE.out, OKO.out, OKL.out, OKR.out, HO.out, HB.out⟩
      case measure => simp [intOf]; omega
    obtain ⟨sQ, hsQ⟩ := ts_some HMR.out HNZ.out
    have hq0 : 0 < tsR.length := (List.getElem?_eq_some_iff.1 hsQ).1
    have HSQ := Hd.mk hsQ
    have HQX := Hd.mk (ts_head HMR.out hsQ)
    clear hsQ
    go_upto_region 15 with fail
    refine wp_region_vg 18 [105, 106, 107, 108, 109, 110, 111, 112, 113, 114, 115, 116, 117, 118, 119, 120, 121, 4] [0, 2, 6, 9, 13, 14, 16, 17] [] 84 [.int .i64 0, .int .i64 0] [isV (.slice A5 ((keepL Wd Ht xs ms).length) k5), isMs w.heap.size (keepL Wd Ht xs ms), isV (.slice A ms.length k), isV (.agg #[.int .i64 Wd, .int .i64 Ht, .slice B xs.length c]), isMs w.heap.size (keepL Wd Ht xs ms), isV (.bool true), isV (.bool true), isV (.agg #[.int .i64 Wd, .int .i64 Ht, .slice sL.A sL.xs.length sL.k]), isV (.agg #[.int .i64 Wd, .int .i64 Ht, .slice sL.A sL.xs.length sL.k]), isV (.slice (some ⟨gR, 0, none⟩) tsR.length kR), isV (.pointer (some ⟨gR, 0 + 0 * 3, none⟩)), isV (.agg #[.int .i64 Wd, .int .i64 Ht, .slice sQ.A sQ.xs.length sQ.k]), isV (.bool true), isV (.bool true), isV (.bool true), isV (.bool true), isV (.bool true), isV (.bool true)] (by kernel_rfl) (by kernel_rfl) (by kernel_rfl) (by rfl) alloc_Z (fun d v c a w h => by cases d <;> exact h) ?_ ?_
    · intro qi qh qA aa wx hb hs hd
      match qi, qh, qA with
      | 0, _, _ => exact .inl ⟨rfl, op_mv rfl (hs 5 rfl)⟩
      | 1, _, _ => exact .inl ⟨rfl, op_call1 rfl rfl Try.call40 (by obtain ⟨A', k', e, r, _⟩ := row_reads (HO.out.to hb); rw [show aa.eval (.tmp 105) = _ from hd 0 rfl]; injection e with e1 _ e3; subst e1 e3; exact got_ms (Nat.le_trans HB.out.size hb.size) (ownMoves_got _ _ (keepL Wd Ht xs ms) _ r HKS.out))⟩
      | 2, _, _ => exact .inl ⟨rfl, op_mv rfl (hs 0 rfl)⟩
      | 3, _, _ => exact .inl ⟨rfl, op_ldU rfl rfl (hs 3 rfl) ((HE.out.to hb).get 0 rfl)⟩
      | 4, _, _ => exact .inl ⟨rfl, op_call2 rfl rfl Try.call49 (by rw [(show aa.eval (.tmp 107) = .slice A ms.length k from (hd 2 rfl)), (show aa.eval (.tmp 108) = .agg #[.int .i64 Wd, .int .i64 Ht, .slice B xs.length c] from (hd 3 rfl))]; exact got_ms (Nat.le_trans HB.out.size hb.size) (rKeeps_got Wd Ht A k ms B c xs _ (HRM.out.to (bel_then HB.out hb)) (by omega) (HRI.out.to (bel_then HB.out hb)) HV.out HALL.out))⟩
      | 5, _, _ => exact .inl ⟨rfl, op_call2 rfl rfl Try.call39 (by obtain ⟨A1, k1, e1, r1⟩ := ms_reads (hd 1 rfl); obtain ⟨A2, k2, e2, r2⟩ := ms_reads (hd 4 rfl); rw [show aa.eval (.tmp 106) = _ from e1, show aa.eval (.tmp 109) = _ from e2]; exact equalM_same A1 k1 A2 k2 _ _ r1 r2 HKS.out)⟩
      | 6, _, _ => exact .inl ⟨rfl, op_mv rfl (hd 5 rfl)⟩
      | 7, _, _ => exact .inl ⟨⟨rfl, .inl (hd 6 rfl)⟩, op_ldT rfl rfl (hs 9 rfl) ((HE.out.to hb).get 2 rfl)⟩
      | 8, _, _ => exact .inl ⟨⟨rfl, .inl (hd 6 rfl)⟩, op_call1 rfl rfl Try.call21 (by rw [(show aa.eval (.tmp 112) = .agg #[.int .i64 Wd, .int .i64 Ht, .slice sL.A sL.xs.length sL.k] from (hd 7 rfl))]; exact own_got Wd Ht sL.A sL.xs.length sL.k _)⟩
      | 9, _, _ => exact .inl ⟨⟨rfl, .inl (hd 6 rfl)⟩, op_mv rfl (hs 11 rfl)⟩
      | 10, _, _ => exact .inl ⟨⟨rfl, .inl (hd 6 rfl)⟩, op_run rfl (op_idxU (j := 0) hq0 rfl (hd 9 rfl) rfl _) rfl⟩
      | 11, _, _ => exact .inl ⟨⟨rfl, .inl (hd 6 rfl)⟩, op_ldvU rfl rfl (hd 10 rfl) (tcell_ld ((HE.out.to hb).get 3 rfl) HSQ.out)⟩
      | 12, _, _ => exact .inl ⟨⟨rfl, .inl (hd 6 rfl)⟩, op_call2 rfl rfl Try.call20 (by rw [show aa.eval (.tmp 113) = _ from hd 8 rfl, show aa.eval (.tmp 116) = _ from hd 11 rfl]; exact same_yes Wd Ht (leastL Wd Ht xs ms) HLN.out _ _ _ (rd_ok ((OKL.out sL (List.mem_singleton.2 rfl)).to hb) HXL.out) (rd_ok ((OKR.out sQ (List.mem_of_getElem? HSQ.out)).to hb) HQX.out.symm))⟩
      | 13, _, _ => exact .inl ⟨rfl, ⟨_, op_pickT rfl (hd 6 rfl) (hd 12 rfl), rfl⟩⟩
      | 14, _, _ => exact .inl ⟨rfl, op_mv rfl (hd 13 rfl)⟩
      | 15, _, _ => exact .inl ⟨⟨rfl, .inl (hd 14 rfl)⟩, op_call0 rfl rfl Try.call18 (awake_got _)⟩
      | 16, _, _ => exact .inl ⟨rfl, ⟨_, op_pickT rfl (hd 14 rfl) (hd 15 rfl), rfl⟩⟩
      | 17, _, _ => exact .inl ⟨rfl, op_asg rfl (hd 16 rfl)⟩
      | qi + 18, h, _ => omega
    intro vs X1 hb hv hal hne
    replace HB := Hd.mk (bel_then HB.out hb)
    replace HE := Hd.mk (HE.out.to hb)
    replace OKO := Hd.mk (OKO.out.to hb)
    replace OKL := Hd.mk (OKL.out.to hb)
    replace OKR := Hd.mk (OKR.out.to hb)
    have HOL := Hd.mk HO.out.lt
    replace HO := Hd.mk (HO.out.to hb)
    have e4 : vs 4 = .bool true := hv 17 (by decide) rfl
    simp only [PA, e4]
    clear hv hal hne hb e4 HOL
    go_wp2_with fail
    go_ret
    exact ⟨_, rfl, HB.out, rfl⟩
end Go.Proofs.Ytddbmckbankmeaa
set_option linter.unusedVariables false
namespace Go.Proofs.Ytddbmckbankmeaa
open Go.RowKit
theorem StampOrbits_walk (l : RMs) (s : RSt) (w : World) (hl : l.at_ w) (hs : s.at_ w) : Calls Try.prog 11 #[l.v, s.v] w fun e w' => e = .returned (.bool true) ∧ Below w.heap.size w w' := by
  obtain ⟨A, k, ms⟩ := l
  obtain ⟨hr, hn⟩ := hl
  obtain ⟨W, H, B, c, xs⟩ := s
  obtain ⟨hri, hlk, hB⟩ := hs
  refine Calls.mono ?_ (show ∀ e w', Got w (isV (.bool true)).p e w' → _ from fun e w' ⟨v, he, hb, hv⟩ => ⟨by rw [he, show v = .bool true from hv], hb⟩)
  cases h : (validB W H (xs.take 70) && gB W H (ms.take 521))
  · exact SOrb_no W H A k ms B c xs w hr hn hri hlk hB h
  rw [Bool.and_eq_true, valid_take] at h
  have ht := gp_take (valid_size h.1) h.2
  rw [ht] at h
  exact SOrb_yes W H A k ms B c xs w hr hn hri hlk hB h.1 h.2
end Go.Proofs.Ytddbmckbankmeaa
