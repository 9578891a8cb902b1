/- Part 29 of the texts behind this claim. -/
import Derived.Test.YtddbmckbankmeaaGreatKb25
import Derived.Test.YtddbmckbankmeaaGreatKb26
set_option linter.unusedVariables false
set_option linter.unusedSimpArgs false
namespace Go.Proofs.YtddbmckbankmeaaGreat
open Go.RowKit
set_option maxRecDepth 100000 in
set_option maxHeartbeats 1000000 in
theorem Burnside_sz (Wd Ht Kc : Int) (A : Option Addr) (k : Nat) (ms : List Mv) (w : World) (hs : sizeB Wd Ht = false) :
  Calls Tryz.prog 5 #[.int .i64 Wd, .int .i64 Ht, .int .i64 Kc, .slice A ms.length k] w (Got w (isP (isU 0) (isV (.int .i64 2))).p) := by
 have HS := Hd.mk hs; go_enter Tryz.func5, Tryz.ntmps5
 go_upto_region 1 with fail
 obtain ⟨W0, hW0⟩ : ∃ W : World, W = w.alloc (.cells #[.bool false, .slice none 0 0] 25) := ⟨_, rfl⟩; rw [← hW0]; obtain ⟨he, hb⟩ := env_one hW0; have HE := Hd.mk he; have HB := Hd.mk hb; clear he hb hW0; refine wp_region_vd 4 [19, 20, 21, 10] [0, 1, 2] [3] 63 [.int .i64 0, .int .i64 0] [qI Wd, qI Ht, isV (.agg #[.int .i64 Wd, .int .i64 Ht]), SP.any] (by rfl) alloc_Z ?_ ?_
 ·intro qi qh qA aa wx hb hs hd
  match qi, qh, qA with
  | 0, _, _ => exact aL (op_mv rfl (hs 0 rfl)) | 1, _, _ => exact aL (op_mv rfl (hs 1 rfl)) | 2, _, _ => exact aL ⟨_, op_buZ rfl (hd 0 rfl) (hd 1 rfl), rfl⟩ | 3, _, h => cases h | qi + 4, h, _ => omega
 intro vs X1 hb hv hal hne; have HL0 := Hd.mk (HE.out.lt); have HBW := HB; replace HB := Hd.mk (bel_then HB.out hb); replace HE := Hd.mk (HE.out.to hb); have e21 : vs 21 = .agg #[.int .i64 Wd, .int .i64 Ht] := hv 2 (by decide) rfl; obtain ⟨g10, e10, l10, b10⟩ : ∃ g, vs 10 = .pointer (some ⟨g, 0, none⟩) ∧ _ := hal 3 rfl; replace HE : Hd (Env X1 [⟨w.heap.size, 25, [.bool false, .slice none 0 0]⟩, ⟨g10, 63, [.int .i64 0, .int .i64 0]⟩]) := ⟨Env.addne (e := ⟨g10, 63, [.int .i64 0, .int .i64 0]⟩) HE.out b10 (fun e' he => Nat.ne_of_lt (Nat.lt_of_lt_of_le (HL0.out e' he) l10))⟩; have G10 : Hd (w.heap.size ≤ g10) := ⟨Nat.le_trans HBW.out.size l10⟩; simp only [PA, e21, e10]; clear hv hal hne hb HL0 HBW e21 e10 l10 b10; refine wpList_st rfl rfl rfl rfl rfl (sto_Z (HE.out.get 1 rfl)) ?_; have HE' : Env (putL X1 g10 0 [.int .i64 Wd, .int .i64 Ht]) [⟨w.heap.size, 25, [.bool false, .slice none 0 0]⟩, ⟨g10, 63, [.int .i64 Wd, .int .i64 Ht]⟩] := HE.out.putF 1 rfl rfl; have HB' := putL_below (show w.heap.size ≤ g10 from G10.out) [.int .i64 Wd, .int .i64 Ht] _ 0 HB.out; generalize putL X1 g10 0 [.int .i64 Wd, .int .i64 Ht] = X2 at *; replace HE := Hd.mk HE'; replace HB := Hd.mk HB'; clear HE' HB'; have k0 := HE.out.cell 1 0 rfl rfl; have k1 := HE.out.cell 1 1 rfl rfl; go_upto_region 3 with (first | (go_at_call 22; (have h := valid_got Wd Ht X2); rw [HS.out] at h; refine h.mono ?_; rintro e wr ⟨v, rfl, hb, rfl⟩; clear h; replace HB := Hd.mk (bel_then HB.out hb); replace HE := Hd.mk (HE.out.to hb); have k2 := HE.out.cell 1 0 rfl rfl; have k3 := HE.out.cell 1 1 rfl rfl; clear hb) | fail)
 clear k0 k1 k2 k3; refine wp_region_vd 1 [39] [0] [] 63 [.int .i64 0, .int .i64 0] [isV (.agg #[.bool false, .slice none 0 0])] (by rfl) alloc_Z ?_ ?_
 ·intro qi qh qA aa wx hb hs hd
  match qi, qh, qA with
  | 0, _, _ => exact aL ⟨_, op_b0J rfl, rfl⟩ | qi + 1, h, _ => omega
 intro vs X6 hb hv hal hne; replace HB := Hd.mk (bel_then HB.out hb); replace HE := Hd.mk (HE.out.to hb); have e39 : vs 39 = .agg #[.bool false, .slice none 0 0] := hv 0 (by decide) rfl; simp only [PA, e39]; clear hv hal hne hb e39; refine wpList_st rfl rfl rfl rfl rfl (sto_J (HE.out.get 0 rfl)) ?_; have HE' : Env (putL X6 w.heap.size 0 [.bool false, .slice none 0 0]) [⟨w.heap.size, 25, [.bool false, .slice none 0 0]⟩, ⟨g10, 63, [.int .i64 Wd, .int .i64 Ht]⟩] := HE.out.putF 0 rfl rfl; have HB' := putL_below (show w.heap.size ≤ w.heap.size from by omega) [.bool false, .slice none 0 0] _ 0 HB.out; generalize putL X6 w.heap.size 0 [.bool false, .slice none 0 0] = X7 at *; replace HE := Hd.mk HE'; replace HB := Hd.mk HB'; clear HE' HB'; go_wp2_with fail
 have k0a := HE.out.cell 0 0 rfl rfl; have k0b := HE.out.cell 0 1 rfl rfl; refine bodyPost_ret (v := .tuple #[.agg #[.bool false, .slice none 0 0], .int .i64 2]) (by simp [results, Tryz.results5, go_sem, k0a, k0b]) rfl ?_; exact ⟨_, rfl, HB.out, _, _, rfl, ⟨none, 0, by rw [ln_z], nt_nil _⟩, rfl⟩
set_option maxRecDepth 100000 in
set_option maxHeartbeats 1000000 in
theorem Burnside_lo (Wd Ht Kc : Int) (A : Option Addr) (k : Nat) (ms : List Mv) (w : World) (hs : sizeB Wd Ht = true) (hK : Kc < 1) :
  Calls Tryz.prog 5 #[.int .i64 Wd, .int .i64 Ht, .int .i64 Kc, .slice A ms.length k] w (Got w (isP (isU 0) (isV (.int .i64 2))).p) := by
 have HS := Hd.mk hs; go_enter Tryz.func5, Tryz.ntmps5
 go_upto_region 1 with fail
 obtain ⟨W0, hW0⟩ : ∃ W : World, W = w.alloc (.cells #[.bool false, .slice none 0 0] 25) := ⟨_, rfl⟩; rw [← hW0]; obtain ⟨he, hb⟩ := env_one hW0; have HE := Hd.mk he; have HB := Hd.mk hb; clear he hb hW0; refine wp_region_vd 4 [19, 20, 21, 10] [0, 1, 2] [3] 63 [.int .i64 0, .int .i64 0] [qI Wd, qI Ht, isV (.agg #[.int .i64 Wd, .int .i64 Ht]), SP.any] (by rfl) alloc_Z ?_ ?_
 ·intro qi qh qA aa wx hb hs hd
  match qi, qh, qA with
  | 0, _, _ => exact aL (op_mv rfl (hs 0 rfl)) | 1, _, _ => exact aL (op_mv rfl (hs 1 rfl)) | 2, _, _ => exact aL ⟨_, op_buZ rfl (hd 0 rfl) (hd 1 rfl), rfl⟩ | 3, _, h => cases h | qi + 4, h, _ => omega
 intro vs X1 hb hv hal hne; have HL0 := Hd.mk (HE.out.lt); have HBW := HB; replace HB := Hd.mk (bel_then HB.out hb); replace HE := Hd.mk (HE.out.to hb); have e21 : vs 21 = .agg #[.int .i64 Wd, .int .i64 Ht] := hv 2 (by decide) rfl; obtain ⟨g10, e10, l10, b10⟩ : ∃ g, vs 10 = .pointer (some ⟨g, 0, none⟩) ∧ _ := hal 3 rfl; replace HE : Hd (Env X1 [⟨w.heap.size, 25, [.bool false, .slice none 0 0]⟩, ⟨g10, 63, [.int .i64 0, .int .i64 0]⟩]) := ⟨Env.addne (e := ⟨g10, 63, [.int .i64 0, .int .i64 0]⟩) HE.out b10 (fun e' he => Nat.ne_of_lt (Nat.lt_of_lt_of_le (HL0.out e' he) l10))⟩; have G10 : Hd (w.heap.size ≤ g10) := ⟨Nat.le_trans HBW.out.size l10⟩; simp only [PA, e21, e10]; clear hv hal hne hb HL0 HBW e21 e10 l10 b10; refine wpList_st rfl rfl rfl rfl rfl (sto_Z (HE.out.get 1 rfl)) ?_; have HE' : Env (putL X1 g10 0 [.int .i64 Wd, .int .i64 Ht]) [⟨w.heap.size, 25, [.bool false, .slice none 0 0]⟩, ⟨g10, 63, [.int .i64 Wd, .int .i64 Ht]⟩] := HE.out.putF 1 rfl rfl; have HB' := putL_below (show w.heap.size ≤ g10 from G10.out) [.int .i64 Wd, .int .i64 Ht] _ 0 HB.out; generalize putL X1 g10 0 [.int .i64 Wd, .int .i64 Ht] = X2 at *; replace HE := Hd.mk HE'; replace HB := Hd.mk HB'; clear HE' HB'; have k0 := HE.out.cell 1 0 rfl rfl; have k1 := HE.out.cell 1 1 rfl rfl; go_upto_region 3 with (first | (go_at_call 22; (have h := valid_got Wd Ht X2); rw [HS.out] at h; refine h.mono ?_; rintro e wr ⟨v, rfl, hb, rfl⟩; clear h; replace HB := Hd.mk (bel_then HB.out hb); replace HE := Hd.mk (HE.out.to hb); have k2 := HE.out.cell 1 0 rfl rfl; have k3 := HE.out.cell 1 1 rfl rfl; clear hb) | fail)
 clear k0 k1 k2 k3; refine wp_region_vd 1 [39] [0] [] 63 [.int .i64 0, .int .i64 0] [isV (.agg #[.bool false, .slice none 0 0])] (by rfl) alloc_Z ?_ ?_
 ·intro qi qh qA aa wx hb hs hd
  match qi, qh, qA with
  | 0, _, _ => exact aL ⟨_, op_b0J rfl, rfl⟩ | qi + 1, h, _ => omega
 intro vs X6 hb hv hal hne; replace HB := Hd.mk (bel_then HB.out hb); replace HE := Hd.mk (HE.out.to hb); have e39 : vs 39 = .agg #[.bool false, .slice none 0 0] := hv 0 (by decide) rfl; simp only [PA, e39]; clear hv hal hne hb e39; refine wpList_st rfl rfl rfl rfl rfl (sto_J (HE.out.get 0 rfl)) ?_; have HE' : Env (putL X6 w.heap.size 0 [.bool false, .slice none 0 0]) [⟨w.heap.size, 25, [.bool false, .slice none 0 0]⟩, ⟨g10, 63, [.int .i64 Wd, .int .i64 Ht]⟩] := HE.out.putF 0 rfl rfl; have HB' := putL_below (show w.heap.size ≤ w.heap.size from by omega) [.bool false, .slice none 0 0] _ 0 HB.out; generalize putL X6 w.heap.size 0 [.bool false, .slice none 0 0] = X7 at *; replace HE := Hd.mk HE'; replace HB := Hd.mk HB'; clear HE' HB'; go_wp2_with fail
 have k0a := HE.out.cell 0 0 rfl rfl; have k0b := HE.out.cell 0 1 rfl rfl; refine bodyPost_ret (v := .tuple #[.agg #[.bool false, .slice none 0 0], .int .i64 2]) (by simp [results, Tryz.results5, go_sem, k0a, k0b]) rfl ?_; exact ⟨_, rfl, HB.out, _, _, rfl, ⟨none, 0, by rw [ln_z], nt_nil _⟩, rfl⟩
set_option maxRecDepth 100000 in
set_option maxHeartbeats 1000000 in
theorem Burnside_hi (Wd Ht Kc : Int) (A : Option Addr) (k : Nat) (ms : List Mv) (w : World) (hs : sizeB Wd Ht = true) (hK : 8 < Kc) :
  Calls Tryz.prog 5 #[.int .i64 Wd, .int .i64 Ht, .int .i64 Kc, .slice A ms.length k] w (Got w (isP (isU 0) (isV (.int .i64 2))).p) := by
 have HS := Hd.mk hs; have hK1 : ¬ Kc < 1 := by omega
 go_enter Tryz.func5, Tryz.ntmps5
 go_upto_region 1 with fail
 obtain ⟨W0, hW0⟩ : ∃ W : World, W = w.alloc (.cells #[.bool false, .slice none 0 0] 25) := ⟨_, rfl⟩; rw [← hW0]; obtain ⟨he, hb⟩ := env_one hW0; have HE := Hd.mk he; have HB := Hd.mk hb; clear he hb hW0; refine wp_region_vd 4 [19, 20, 21, 10] [0, 1, 2] [3] 63 [.int .i64 0, .int .i64 0] [qI Wd, qI Ht, isV (.agg #[.int .i64 Wd, .int .i64 Ht]), SP.any] (by rfl) alloc_Z ?_ ?_
 ·intro qi qh qA aa wx hb hs hd
  match qi, qh, qA with
  | 0, _, _ => exact aL (op_mv rfl (hs 0 rfl)) | 1, _, _ => exact aL (op_mv rfl (hs 1 rfl)) | 2, _, _ => exact aL ⟨_, op_buZ rfl (hd 0 rfl) (hd 1 rfl), rfl⟩ | 3, _, h => cases h | qi + 4, h, _ => omega
 intro vs X1 hb hv hal hne; have HL0 := Hd.mk (HE.out.lt); have HBW := HB; replace HB := Hd.mk (bel_then HB.out hb); replace HE := Hd.mk (HE.out.to hb); have e21 : vs 21 = .agg #[.int .i64 Wd, .int .i64 Ht] := hv 2 (by decide) rfl; obtain ⟨g10, e10, l10, b10⟩ : ∃ g, vs 10 = .pointer (some ⟨g, 0, none⟩) ∧ _ := hal 3 rfl; replace HE : Hd (Env X1 [⟨w.heap.size, 25, [.bool false, .slice none 0 0]⟩, ⟨g10, 63, [.int .i64 0, .int .i64 0]⟩]) := ⟨Env.addne (e := ⟨g10, 63, [.int .i64 0, .int .i64 0]⟩) HE.out b10 (fun e' he => Nat.ne_of_lt (Nat.lt_of_lt_of_le (HL0.out e' he) l10))⟩; have G10 : Hd (w.heap.size ≤ g10) := ⟨Nat.le_trans HBW.out.size l10⟩; simp only [PA, e21, e10]; clear hv hal hne hb HL0 HBW e21 e10 l10 b10; refine wpList_st rfl rfl rfl rfl rfl (sto_Z (HE.out.get 1 rfl)) ?_; have HE' : Env (putL X1 g10 0 [.int .i64 Wd, .int .i64 Ht]) [⟨w.heap.size, 25, [.bool false, .slice none 0 0]⟩, ⟨g10, 63, [.int .i64 Wd, .int .i64 Ht]⟩] := HE.out.putF 1 rfl rfl; have HB' := putL_below (show w.heap.size ≤ g10 from G10.out) [.int .i64 Wd, .int .i64 Ht] _ 0 HB.out; generalize putL X1 g10 0 [.int .i64 Wd, .int .i64 Ht] = X2 at *; replace HE := Hd.mk HE'; replace HB := Hd.mk HB'; clear HE' HB'; have k0 := HE.out.cell 1 0 rfl rfl; have k1 := HE.out.cell 1 1 rfl rfl; go_upto_region 3 with (first | (go_at_call 22; (have h := valid_got Wd Ht X2); rw [HS.out] at h; refine h.mono ?_; rintro e wr ⟨v, rfl, hb, rfl⟩; clear h; replace HB := Hd.mk (bel_then HB.out hb); replace HE := Hd.mk (HE.out.to hb); have k2 := HE.out.cell 1 0 rfl rfl; have k3 := HE.out.cell 1 1 rfl rfl; clear hb) | fail)
 clear k0 k1 k2 k3; refine wp_region_vd 1 [39] [0] [] 63 [.int .i64 0, .int .i64 0] [isV (.agg #[.bool false, .slice none 0 0])] (by rfl) alloc_Z ?_ ?_
 ·intro qi qh qA aa wx hb hs hd
  match qi, qh, qA with
  | 0, _, _ => exact aL ⟨_, op_b0J rfl, rfl⟩ | qi + 1, h, _ => omega
 intro vs X6 hb hv hal hne; replace HB := Hd.mk (bel_then HB.out hb); replace HE := Hd.mk (HE.out.to hb); have e39 : vs 39 = .agg #[.bool false, .slice none 0 0] := hv 0 (by decide) rfl; simp only [PA, e39]; clear hv hal hne hb e39; refine wpList_st rfl rfl rfl rfl rfl (sto_J (HE.out.get 0 rfl)) ?_; have HE' : Env (putL X6 w.heap.size 0 [.bool false, .slice none 0 0]) [⟨w.heap.size, 25, [.bool false, .slice none 0 0]⟩, ⟨g10, 63, [.int .i64 Wd, .int .i64 Ht]⟩] := HE.out.putF 0 rfl rfl; have HB' := putL_below (show w.heap.size ≤ w.heap.size from by omega) [.bool false, .slice none 0 0] _ 0 HB.out; generalize putL X6 w.heap.size 0 [.bool false, .slice none 0 0] = X7 at *; replace HE := Hd.mk HE'; replace HB := Hd.mk HB'; clear HE' HB'; go_wp2_with fail
 have k0a := HE.out.cell 0 0 rfl rfl; have k0b := HE.out.cell 0 1 rfl rfl; refine bodyPost_ret (v := .tuple #[.agg #[.bool false, .slice none 0 0], .int .i64 2]) (by simp [results, Tryz.results5, go_sem, k0a, k0b]) rfl ?_; exact ⟨_, rfl, HB.out, _, _, rfl, ⟨none, 0, by rw [ln_z], nt_nil _⟩, rfl⟩
set_option maxRecDepth 100000 in
theorem List_sz (Wd Ht Kc : Int) (A : Option Addr) (k : Nat) (ms : List Mv) (w : World) (hs : sizeB Wd Ht = false) :
  Calls Tryz.prog 7 #[.int .i64 Wd, .int .i64 Ht, .int .i64 Kc, .slice A ms.length k] w (Got w (isP (isV (.slice none 0 0)) (isV (.int .i64 2))).p) := by
 have HS := Hd.mk hs; have HB : Hd (Below w.heap.size w (w.alloc (.cells #[.int .i64 Wd, .int .i64 Ht] 63))) := ⟨below_alloc (Below.refl _ _) _⟩; go_enter Tryz.func7, Tryz.ntmps7
 go_wp2_with (first | (go_at_call 22; (have h := valid_got Wd Ht (w.alloc (.cells #[.int .i64 Wd, .int .i64 Ht] 63))); rw [HS.out] at h; refine h.mono ?_; rintro e w' ⟨v, rfl, hb, rfl⟩; clear h; replace HB := Hd.mk (bel_then HB.out hb); clear hb) | fail)
 refine bodyPost_ret (v := .tuple #[.slice none 0 0, .int .i64 2]) (by simp [results, Tryz.results7, go_sem]) rfl ?_; exact ⟨_, rfl, HB.out, _, _, rfl, rfl, rfl⟩
set_option maxRecDepth 100000 in
theorem List_lo (Wd Ht Kc : Int) (A : Option Addr) (k : Nat) (ms : List Mv) (w : World) (hs : sizeB Wd Ht = true) (hK : Kc < 1) :
  Calls Tryz.prog 7 #[.int .i64 Wd, .int .i64 Ht, .int .i64 Kc, .slice A ms.length k] w (Got w (isP (isV (.slice none 0 0)) (isV (.int .i64 2))).p) := by
 have HS := Hd.mk hs; have HB : Hd (Below w.heap.size w (w.alloc (.cells #[.int .i64 Wd, .int .i64 Ht] 63))) := ⟨below_alloc (Below.refl _ _) _⟩; go_enter Tryz.func7, Tryz.ntmps7
 go_wp2_with (first | (go_at_call 22; (have h := valid_got Wd Ht (w.alloc (.cells #[.int .i64 Wd, .int .i64 Ht] 63))); rw [HS.out] at h; refine h.mono ?_; rintro e w' ⟨v, rfl, hb, rfl⟩; clear h; replace HB := Hd.mk (bel_then HB.out hb); clear hb) | fail)
 refine bodyPost_ret (v := .tuple #[.slice none 0 0, .int .i64 2]) (by simp [results, Tryz.results7, go_sem]) rfl ?_; exact ⟨_, rfl, HB.out, _, _, rfl, rfl, rfl⟩
set_option maxRecDepth 100000 in
theorem List_hi (Wd Ht Kc : Int) (A : Option Addr) (k : Nat) (ms : List Mv) (w : World) (hs : sizeB Wd Ht = true) (hK : 8 < Kc) :
  Calls Tryz.prog 7 #[.int .i64 Wd, .int .i64 Ht, .int .i64 Kc, .slice A ms.length k] w (Got w (isP (isV (.slice none 0 0)) (isV (.int .i64 2))).p) := by
 have HS := Hd.mk hs; have HB : Hd (Below w.heap.size w (w.alloc (.cells #[.int .i64 Wd, .int .i64 Ht] 63))) := ⟨below_alloc (Below.refl _ _) _⟩; have hK1 : ¬ Kc < 1 := by omega
 go_enter Tryz.func7, Tryz.ntmps7
 go_wp2_with (first | (go_at_call 22; (have h := valid_got Wd Ht (w.alloc (.cells #[.int .i64 Wd, .int .i64 Ht] 63))); rw [HS.out] at h; refine h.mono ?_; rintro e w' ⟨v, rfl, hb, rfl⟩; clear h; replace HB := Hd.mk (bel_then HB.out hb); clear hb) | fail)
 refine bodyPost_ret (v := .tuple #[.slice none 0 0, .int .i64 2]) (by simp [results, Tryz.results7, go_sem]) rfl ?_; exact ⟨_, rfl, HB.out, _, _, rfl, rfl, rfl⟩
set_option maxRecDepth 100000 in
set_option maxHeartbeats 1000000 in
theorem List_big (Wd Ht : Int) (K N : Nat) (A : Option Addr) (k : Nat) (ms : List Mv) (w : World) (hrm : RdM w A ms) (hln : ms.length ≤ 100000) (hs : sizeB Wd Ht = true) (hK : 1 ≤ K ∧ K ≤ 8) (hg : gB Wd Ht ms = true) (hN : (N : Int) = Wd * Ht) (hM : 4096 < K ^ N) :
  Calls Tryz.prog 7 #[.int .i64 Wd, .int .i64 Ht, .int .i64 (((K : Nat) : Int)), .slice A ms.length k] w (Got w (isP (isV (.slice none 0 0)) (isV (.int .i64 3))).p) := by
 have hwh := sizeB_bounds hs; have hn64 : N ≤ 64 := by have := mul_small (a := Wd) (b := Ht) (by omega) (by omega); omega
 have HNN := Hd.mk hN.symm; obtain ⟨pw, hpw⟩ : ∃ pw : Nat → Nat, pw = fun i => K ^ i := ⟨_, rfl⟩
 have HP0 : Hd (pw 0 = 1) := ⟨by rw [hpw]; rfl⟩; have HPS : Hd (∀ i, pw (i + 1) = pw i * K) := ⟨fun i => by rw [hpw]; exact Nat.pow_succ ..⟩; have HPM : Hd (4096 < pw N) := ⟨by rw [hpw]; exact hM⟩; have HRM := Hd.mk hrm; have HS := Hd.mk hs; have HG := Hd.mk hg; clear hrm hs hg hN hM hpw; go_enter Tryz.func7, Tryz.ntmps7
 go_upto_region 1 with fail
 have HE : Hd (Env w []) := ⟨trivial⟩; have HB : Hd (Below w.heap.size w w) := ⟨Below.refl _ _⟩; refine wp_region_vd 4 [16, 17, 18, 10] [0, 1, 2] [3] 63 [.int .i64 0, .int .i64 0] [qI Wd, qI Ht, isV (.agg #[.int .i64 Wd, .int .i64 Ht]), SP.any] (by rfl) alloc_Z ?_ ?_
 ·intro qi qh qA aa wx hb hs hd
  match qi, qh, qA with
  | 0, _, _ => exact aL (op_mv rfl (hs 0 rfl)) | 1, _, _ => exact aL (op_mv rfl (hs 1 rfl)) | 2, _, _ => exact aL ⟨_, op_buZ rfl (hd 0 rfl) (hd 1 rfl), rfl⟩ | 3, _, h => cases h | qi + 4, h, _ => omega
 intro vs X1 hb hv hal hne; have HL0 := Hd.mk (HE.out.lt); have HBW := HB; replace HB := Hd.mk (bel_then HB.out hb); replace HE := Hd.mk (HE.out.to hb); have e18 : vs 18 = .agg #[.int .i64 Wd, .int .i64 Ht] := hv 2 (by decide) rfl; obtain ⟨g10, e10, l10, b10⟩ : ∃ g, vs 10 = .pointer (some ⟨g, 0, none⟩) ∧ _ := hal 3 rfl; replace HE : Hd (Env X1 [⟨g10, 63, [.int .i64 0, .int .i64 0]⟩]) := ⟨Env.addne (e := ⟨g10, 63, [.int .i64 0, .int .i64 0]⟩) HE.out b10 (fun e' he => Nat.ne_of_lt (Nat.lt_of_lt_of_le (HL0.out e' he) l10))⟩; have G10 : Hd (w.heap.size ≤ g10) := ⟨Nat.le_trans HBW.out.size l10⟩; simp only [PA, e18, e10]; clear hv hal hne hb HL0 HBW e18 e10 l10 b10; refine wpList_st rfl rfl rfl rfl rfl (sto_Z (HE.out.get 0 rfl)) ?_; have HE' : Env (putL X1 g10 0 [.int .i64 Wd, .int .i64 Ht]) [⟨g10, 63, [.int .i64 Wd, .int .i64 Ht]⟩] := HE.out.putF 0 rfl rfl; have HB' := putL_below (show w.heap.size ≤ g10 from G10.out) [.int .i64 Wd, .int .i64 Ht] _ 0 HB.out; generalize putL X1 g10 0 [.int .i64 Wd, .int .i64 Ht] = X2 at *; replace HE := Hd.mk HE'; replace HB := Hd.mk HB'; clear HE' HB'; go_upto_region 2 with fail
 refine wp_region_vd 17 [19, 20, 21, 22, 23, 24, 25, 26, 27, 28, 29, 30, 31, 32, 33, 34, 35] [2, 3, 4, 5, 6, 7, 8, 9, 10, 11, 13, 15, 16] [] 63 [.int .i64 0, .int .i64 0] [isV (.agg #[.int .i64 Wd, .int .i64 Ht]), qT, qF, qF, qI ((K : Nat) : Int), qF, qF, qF, qI ((K : Nat) : Int), qF, qF, qF, isV (.agg #[.int .i64 Wd, .int .i64 Ht]), isV (.slice A ms.length k), qT, qF, qF] (by rfl) alloc_Z ?_ ?_
 ·intro qi qh qA aa wx hb hs hd
  match qi, qh, qA with
  | 0, _, _ => exact aL (op_ldZ rfl rfl (hs 10 rfl) ((HE.out.to hb).get 0 rfl)) | 1, _, _ => exact aL (wp_b (bool_eq HS.out) (op_call1 rfl rfl Tryz.call22 (by rw [(show aa.eval (.tmp 19) = .agg #[.int .i64 Wd, .int .i64 Ht] from (hd 0 rfl))]; exact valid_got Wd Ht _))) | 2, _, _ => exact aL ⟨_, op_not rfl (hd 1 rfl), rfl⟩ | 3, _, _ => exact aL (op_mv rfl (hd 2 rfl)) | 4, _, _ => exact aG (hd 3 rfl) (op_mv rfl (hs 2 rfl)) | 5, _, _ => exact aG (hd 3 rfl) (pure_b (bool_eq (decide_eq_false (by omega))) (⟨_, op_lssI rfl (hd 4 rfl) rfl, rfl⟩)) | 6, _, _ => exact aL ⟨_, op_pickF rfl (hd 3 rfl) (hd 5 rfl), rfl⟩ | 7, _, _ => exact aL (op_mv rfl (hd 6 rfl)) | 8, _, _ => exact aG (hd 7 rfl) (op_mv rfl (hs 2 rfl)) | 9, _, _ => exact aG (hd 7 rfl) (pure_b (bool_eq (decide_eq_false (by omega))) (⟨_, op_gtrI rfl (hd 8 rfl) rfl, rfl⟩)) | 10, _, _ => exact aL ⟨_, op_pickF rfl (hd 7 rfl) (hd 9 rfl), rfl⟩ | 11, _, _ => exact aL (op_mv rfl (hd 10 rfl)) | 12, _, _ => exact aG (hd 11 rfl) (op_ldZ rfl rfl (hs 10 rfl) ((HE.out.to hb).get 0 rfl)) | 13, _, _ => exact aG (hd 11 rfl) (op_mv rfl (hs 3 rfl)) | 14, _, _ => exact aG (hd 11 rfl) (wp_b (bool_eq HG.out) (op_call2 rfl rfl Tryz.call23 (by rw [(show aa.eval (.tmp 31) = .agg #[.int .i64 Wd, .int .i64 Ht] from (hd 12 rfl)), (show aa.eval (.tmp 32) = .slice A ms.length k from (hd 13 rfl))]; exact group_got Wd Ht A k ms _ (HRM.out.to (bel_then HB.out hb)) (by omega) HS.out))) | 15, _, _ => exact aG (hd 11 rfl) ⟨_, op_not rfl (hd 14 rfl), rfl⟩ | 16, _, _ => exact aL ⟨_, op_pickF rfl (hd 11 rfl) (hd 15 rfl), rfl⟩ | qi + 17, h, _ => omega
 intro vs X3 hb hv hal hne; replace HB := Hd.mk (bel_then HB.out hb); replace HE := Hd.mk (HE.out.to hb); have e35 : vs 35 = .bool false := hv 16 (by decide) rfl; simp only [PA, e35]; clear hv hal hne hb e35; go_upto_region 4 with fail
 refine wp_region_vd 0 [] [] [] 63 [.int .i64 0, .int .i64 0] [] (by rfl) alloc_Z ?_ ?_
 ·intro qi qh qA aa wx hb hs hd
  match qi, qh, qA with
  | qi + 0, h, _ => omega
 intro vs X4 hb hv hal hne; replace HB := Hd.mk (bel_then HB.out hb); replace HE := Hd.mk (HE.out.to hb); simp only [PA]; clear hv hal hne hb; go_upto_region 5 with fail
 refine wp_region_vd 4 [36, 37, 38, 39] [0, 1, 2, 3] [] 63 [.int .i64 0, .int .i64 0] [qI Wd, qI Ht, qI ((N : Nat) : Int), qI 0] (by rfl) alloc_Z ?_ ?_
 ·intro qi qh qA aa wx hb hs hd
  match qi, qh, qA with
  | 0, _, _ => exact aL (op_mv rfl (hs 0 rfl)) | 1, _, _ => exact aL (op_mv rfl (hs 1 rfl)) | 2, _, _ => exact aL (pure_b (int_eq HNN.out) (⟨_, op_mul (by unfold Fit; rw [HNN.out]; omega) rfl (hd 0 rfl) (hd 1 rfl), rfl⟩)) | 3, _, _ => exact aL (op_mv rfl rfl) | qi + 4, h, _ => omega
 intro vs X5 hb hv hal hne; replace HB := Hd.mk (bel_then HB.out hb); replace HE := Hd.mk (HE.out.to hb); have e38 : vs 38 = .int .i64 (((N : Nat) : Int)) := hv 2 (by decide) rfl; have e39 : vs 39 = .int .i64 0 := hv 3 (by decide) rfl; simp only [PA, e38, e39]; clear hv hal hne hb e38 e39; go_wp2_with fail
 go_loopw [11, 39] (fun s11 s39 wr => ∃ i : Nat, i ≤ N ∧ pw i ≤ 4096 ∧ s39 = .int .i64 i ∧ s11 = .int .i64 (pw i : Nat) ∧ Env wr [⟨g10, 63, [.int .i64 Wd, .int .i64 Ht]⟩] ∧ Below w.heap.size w wr) (fun _ s39 _ => N - (intOf s39).toNat)
 case atStart => exact ⟨0, Nat.zero_le _, by rw [HP0.out]; omega, rfl, by rw [HP0.out]; rfl, HE.out, HB.out⟩
 case round =>
  obtain ⟨i, hi, hpi, rfl, rfl, he, hb⟩ := hrel; clear HB HE; have HB := Hd.mk hb; have HE : Hd (Env wr [⟨g10, 63, [.int .i64 Wd, .int .i64 Ht]⟩]) := ⟨he⟩; clear he hb; have hj : i < N := Nat.lt_of_le_of_ne hi (fun e => by rw [e] at hpi; exact absurd HPM.out (by omega)); have hp2 := HPS.out i; have hp1 : pw (i + 1) ≤ 40000 := by rw [hp2]; exact Nat.le_trans (Nat.mul_le_mul hpi hK.2) (by decide)
  have HPQ : Hd (((pw i : Nat) : Int) * ((K : Nat) : Int) = ((pw (i + 1) : Nat) : Int)) := ⟨by rw [hp2]; exact (Int.natCast_mul _ _).symm⟩; clear hp2; go_upto_region 7 with fail
  refine wp_region_vd 3 [41, 42, 43] [0, 1, 2] [] 63 [.int .i64 0, .int .i64 0] [qI ((pw i : Nat) : Int), qI ((K : Nat) : Int), qI ((pw (i + 1) : Nat) : Int)] (by rfl) alloc_Z ?_ ?_
  ·intro qi qh qA aa wx hb hs hd
   match qi, qh, qA with
   | 0, _, _ => exact aL (op_mv rfl (hs 11 rfl)) | 1, _, _ => exact aL (op_mv rfl (hs 2 rfl)) | 2, _, _ => exact aL (pure_b (int_eq HPQ.out) (⟨_, op_mul (by unfold Fit; rw [HPQ.out]; omega) rfl (hd 0 rfl) (hd 1 rfl), rfl⟩)) | qi + 3, h, _ => omega
  intro vs X1 hb hv hal hne; replace HB := Hd.mk (bel_then HB.out hb); replace HE := Hd.mk (HE.out.to hb); have e43 : vs 43 = .int .i64 (((pw (i + 1) : Nat) : Int)) := hv 2 (by decide) rfl; simp only [PA, e43]; clear hv hal hne hb e43; by_cases hb4 : 4096 < pw (i + 1)
  ·skip
   go_upto_region 8 with fail
   refine wp_region_vd 2 [44, 45] [0, 1] [] 63 [.int .i64 0, .int .i64 0] [qI ((pw (i + 1) : Nat) : Int), qT] (by rfl) alloc_Z ?_ ?_
   ·intro qi qh qA aa wx hb hs hd
    match qi, qh, qA with
    | 0, _, _ => exact aL (op_mv rfl (hs 11 rfl)) | 1, _, _ => exact aL (pure_b (bool_eq (decide_eq_true (by omega))) (⟨_, op_gtrI rfl (hd 0 rfl) rfl, rfl⟩)) | qi + 2, h, _ => omega
   intro vs X2 hb hv hal hne; replace HB := Hd.mk (bel_then HB.out hb); replace HE := Hd.mk (HE.out.to hb); have e45 : vs 45 = .bool true := hv 1 (by decide) rfl; simp only [PA, e45]; clear hv hal hne hb e45; go_wp2_with fail
   refine bodyPost_ret (v := .tuple #[.slice none 0 0, .int .i64 3]) (by simp [results, Tryz.results7, go_sem]) rfl ?_; exact ⟨_, rfl, HB.out, _, _, rfl, rfl, rfl⟩
  go_upto_region 8 with fail
  refine wp_region_vd 2 [44, 45] [0, 1] [] 63 [.int .i64 0, .int .i64 0] [qI ((pw (i + 1) : Nat) : Int), qF] (by rfl) alloc_Z ?_ ?_
  ·intro qi qh qA aa wx hb hs hd
   match qi, qh, qA with
   | 0, _, _ => exact aL (op_mv rfl (hs 11 rfl)) | 1, _, _ => exact aL (pure_b (bool_eq (decide_eq_false (by omega))) (⟨_, op_gtrI rfl (hd 0 rfl) rfl, rfl⟩)) | qi + 2, h, _ => omega
  intro vs X2 hb hv hal hne; replace HB := Hd.mk (bel_then HB.out hb); replace HE := Hd.mk (HE.out.to hb); have e45 : vs 45 = .bool false := hv 1 (by decide) rfl; simp only [PA, e45]; clear hv hal hne hb e45; go_wp2_with fail
  go_roundw
  case rel => exact ⟨i + 1, by omega, by omega, by go_num, rfl, HE.out, HB.out⟩
  case measure => simp [intOf]; omega
def mnP (K i : Nat) : Nat := min (K ^ i) 4097
theorem mnP_step (K i : Nat) (hK : 1 ≤ K) : (if (4097 : Int) < ((mnP K i : Nat) : Int) * ((K : Nat) : Int) then 4097 else ((mnP K i : Nat) : Int) * ((K : Nat) : Int)) = ((mnP K (i + 1) : Nat) : Int) := by
 rw [← Int.natCast_mul]
 have e : mnP K (i + 1) = min (mnP K i * K) 4097 := by
  unfold mnP; rw [Nat.pow_succ]; by_cases h : K ^ i ≤ 4097
  ·rw [Nat.min_eq_left h]
  have h1 : 4097 ≤ K ^ i * K := Nat.le_trans (by omega) (Nat.le_mul_of_pos_right (K ^ i) hK); have h2 : 4097 ≤ 4097 * K := Nat.le_mul_of_pos_right 4097 hK; rw [Nat.min_eq_right (show 4097 ≤ K ^ i by omega), Nat.min_eq_right h1, Nat.min_eq_right h2]
 rw [e]; generalize mnP K i * K = z; by_cases h : 4097 < z
 ·rw [if_pos (by omega), Nat.min_eq_right (by omega)]; rfl
 rw [if_neg (by omega), Nat.min_eq_left (by omega)]
theorem mnP_le (K i : Nat) : mnP K i ≤ 4097 := Nat.min_le_right _ _
set_option maxRecDepth 100000 in
set_option maxHeartbeats 1000000 in
theorem Many_got (Wd Ht : Int) (K N : Nat) (w : World) (hs : sizeB Wd Ht = true) (hK : 1 ≤ K ∧ K ≤ 8) (hN : (N : Int) = Wd * Ht) :
  Calls Tryz.prog 12 #[.int .i64 Wd, .int .i64 Ht, .int .i64 (((K : Nat) : Int))] w (Got w (isV (.int .i64 ((mnP K N : Nat) : Int))).p) := by
 have hwh := sizeB_bounds hs; have hn64 : N ≤ 64 := by have := mul_small (a := Wd) (b := Ht) (by omega) (by omega); omega
 have HNN := Hd.mk hN.symm; obtain ⟨mn, hmn⟩ : ∃ mn : Nat → Nat, mn = mnP K := ⟨_, rfl⟩; have HP0 : Hd (mn 0 = 1) := ⟨by rw [hmn]; rfl⟩; have HPS : Hd (∀ i, (if (4097 : Int) < ((mn i : Nat) : Int) * ((K : Nat) : Int) then 4097 else ((mn i : Nat) : Int) * ((K : Nat) : Int)) = ((mn (i + 1) : Nat) : Int)) := ⟨fun i => by rw [hmn]; exact mnP_step K i hK.1⟩; have HPB : Hd (∀ i, mn i ≤ 4097) := ⟨fun i => by rw [hmn]; exact mnP_le K i⟩; have HMN : Hd (mn = mnP K) := ⟨hmn⟩; clear hs hN hmn; go_enter Tryz.func12, Tryz.ntmps12
 go_upto_region 2 with fail
 have HE : Hd (Env w []) := ⟨trivial⟩; have HB : Hd (Below w.heap.size w w) := ⟨Below.refl _ _⟩; refine wp_region_vd 4 [8, 9, 10, 11] [0, 1, 2, 3] [] 63 [.int .i64 0, .int .i64 0] [qI Wd, qI Ht, qI ((N : Nat) : Int), qI 0] (by rfl) alloc_Z ?_ ?_
 ·intro qi qh qA aa wx hb hs hd
  match qi, qh, qA with
  | 0, _, _ => exact aL (op_mv rfl (hs 0 rfl)) | 1, _, _ => exact aL (op_mv rfl (hs 1 rfl)) | 2, _, _ => exact aL (pure_b (int_eq HNN.out) (⟨_, op_mul (by unfold Fit; rw [HNN.out]; omega) rfl (hd 0 rfl) (hd 1 rfl), rfl⟩)) | 3, _, _ => exact aL (op_mv rfl rfl) | qi + 4, h, _ => omega
 intro vs X1 hb hv hal hne; replace HB := Hd.mk (bel_then HB.out hb); replace HE := Hd.mk (HE.out.to hb); have e10 : vs 10 = .int .i64 (((N : Nat) : Int)) := hv 2 (by decide) rfl; have e11 : vs 11 = .int .i64 0 := hv 3 (by decide) rfl; simp only [PA, e10, e11]; clear hv hal hne hb e10 e11; go_wp2_with fail
 go_loopw [7, 11] (fun s7 s11 wr => ∃ i : Nat, i ≤ N ∧ s11 = .int .i64 i ∧ s7 = .int .i64 (mn i : Nat) ∧ Below w.heap.size w wr) (fun _ s11 _ => N - (intOf s11).toNat)
 case atStart => exact ⟨0, Nat.zero_le _, rfl, by rw [HP0.out]; rfl, HB.out⟩
 case round =>
  obtain ⟨i, hi, rfl, rfl, hb⟩ := hrel; clear HB HE; have HB := Hd.mk hb; have HE : Hd (Env wr []) := ⟨trivial⟩; clear hb; by_cases hj : i < N
  ·have HPQ := Hd.mk (HPS.out i); have hmb := HPB.out i; have hmk : mn i * K ≤ 4097 * 8 := Nat.mul_le_mul hmb hK.2; have HFT : Hd (Fit (((mn i : Nat) : Int) * ((K : Nat) : Int))) := ⟨by unfold Fit; rw [← Int.natCast_mul]; omega⟩; go_upto_region 4 with fail
   refine wp_region_vd 4 [13, 14, 15, 16] [0, 1, 2] [] 63 [.int .i64 0, .int .i64 0] [qI ((mn i : Nat) : Int), qI ((K : Nat) : Int), qI ((((mn i : Nat) : Int)) * (((K : Nat) : Int))), qI ((mn (i + 1) : Nat) : Int)] (by rfl) alloc_Z ?_ ?_
   ·intro qi qh qA aa wx hb hs hd
    match qi, qh, qA with
    | 0, _, _ => exact aL (op_mv rfl (hs 7 rfl)) | 1, _, _ => exact aL (op_mv rfl (hs 2 rfl)) | 2, _, _ => exact aL ⟨_, op_mul HFT.out rfl (hd 0 rfl) (hd 1 rfl), rfl⟩ | 3, _, _ => exact aL (wp_b (int_eq HPQ.out) (op_min rfl rfl (hd 2 rfl) rfl)) | qi + 4, h, _ => omega
   intro vs X1 hb hv hal hne; replace HB := Hd.mk (bel_then HB.out hb); replace HE := Hd.mk (HE.out.to hb); have e16 : vs 16 = .int .i64 (((mn (i + 1) : Nat) : Int)) := hv 3 (by decide) rfl; simp only [PA, e16]; clear hv hal hne hb e16; go_wp2_with fail
   go_roundw
   case rel => exact ⟨i + 1, by omega, by go_num, rfl, HB.out⟩
   case measure => simp [intOf]; omega
  have e1 : i = N := by omega
  rw [e1]; go_wp2_with fail
  go_ret
  exact ⟨_, rfl, HB.out, by rw [HMN.out]; rfl⟩
end Go.Proofs.YtddbmckbankmeaaGreat
