/- Part 19 of the texts behind this claim. -/
import Derived.Test.YtddbmckbankmeaaKm16
import Derived.Test.YtddbmckbankmeaaKm17
import Derived.Test.YtddbmckbankmeaaKm18
set_option linter.unusedVariables false
set_option linter.unusedSimpArgs false
namespace Go.Proofs.Ytddbmckbankmeaa
open Go.RowKit
def fitB (W H : Int) (l : List Mv) : Bool := l.all fun m => alB W H m.x m.y m.t
theorem fit_snoc {W H : Int} {l : List Mv} {j : Nat} {m : Mv} (hm : l[j]? = some m) : fitB W H (l.take (j + 1)) = (fitB W H (l.take j) && alB W H m.x m.y m.t) := by
  unfold fitB
  rw [List.take_add_one, hm, List.all_append]
  simp
theorem fit_any {W H : Int} {l : List Mv} : (l.any fun m => !alB W H m.x m.y m.t) = !fitB W H l := by
  unfold fitB
  induction l with
  | nil => rfl
  | cons m l ih => rw [List.any_cons, List.all_cons, ih, Bool.not_and]
theorem fit_all {W H : Int} (hs : sizeB W H = true) {l : List Mv} (h : fitB W H l = true) : ∀ m ∈ l, Al W H m := fun m hm => by
  unfold fitB at h
  rw [List.all_eq_true] at h
  exact al_of (f := m.f) hs (h m hm)
set_option maxRecDepth 100000 in
set_option maxHeartbeats 1000000 in
theorem Moves_no (Wd Ht : Int) (w : World) (hs : sizeB Wd Ht = false) :
    Calls Try.prog 37 #[.int .i64 Wd, .int .i64 Ht] w (Got w (isP (isV (.slice none 0 0)) (isV (.int .i64 2))).p) := by
  have HS := Hd.mk hs
  clear hs
  go_enter Try.func37, Try.ntmps37
  go_upto_region 1 with fail
  have HE : Hd (Env w []) := ⟨trivial⟩
  have HB : Hd (Below w.heap.size w w) := ⟨Below.refl _ _⟩
  refine wp_region_vd 4 [9, 10, 11, 6] [0, 1, 2] [3] 84 [.int .i64 0, .int .i64 0] [isV (.int .i64 Wd), isV (.int .i64 Ht), isV (.agg #[.int .i64 Wd, .int .i64 Ht]), SP.any] (by rfl) alloc_Z ?_ ?_
  · intro qi qh qA aa wx hb hs hd
    match qi, qh, qA with
    | 0, _, _ => exact .inl ⟨rfl, op_mv rfl (hs 0 rfl)⟩
    | 1, _, _ => exact .inl ⟨rfl, op_mv rfl (hs 1 rfl)⟩
    | 2, _, _ => exact .inl ⟨rfl, ⟨_, op_buZ rfl (hd 0 rfl) (hd 1 rfl), rfl⟩⟩
    | 3, _, h => cases h
    | qi + 4, h, _ => omega
  intro vs X1 hb hv hal hne
  have HL0 := Hd.mk (HE.out.lt)
  have HBW := HB
  replace HB := Hd.mk (bel_then HB.out hb)
  replace HE := Hd.mk (HE.out.to hb)
  have e11 : vs 11 = .agg #[.int .i64 Wd, .int .i64 Ht] := hv 2 (by decide) rfl
  obtain ⟨g6, e6, l6, b6⟩ : ∃ g, vs 6 = .pointer (some ⟨g, 0, none⟩) ∧ _ := hal 3 rfl
  replace HE : Hd (Env X1 [⟨g6, 84, [.int .i64 0, .int .i64 0]⟩]) := ⟨Env.addne (e := ⟨g6, 84, [.int .i64 0, .int .i64 0]⟩) HE.out b6 (fun e' he => Nat.ne_of_lt (Nat.lt_of_lt_of_le (HL0.out e' he) l6))⟩
  have G6 : Hd (w.heap.size ≤ g6) := ⟨Nat.le_trans HBW.out.size l6⟩
  simp only [PA, e11, e6]
  clear hv hal hne hb HL0 HBW e11 e6 l6 b6
  refine wpList_st rfl rfl rfl rfl rfl (sto_Z (HE.out.get 0 rfl)) ?_
  have HE' : Env (putL X1 g6 0 [.int .i64 Wd, .int .i64 Ht]) [⟨g6, 84, [.int .i64 Wd, .int .i64 Ht]⟩] := HE.out.putF 0 rfl rfl
  have HB' := putL_below (show w.heap.size ≤ g6 from G6.out) [.int .i64 Wd, .int .i64 Ht] _ 0 HB.out
  generalize putL X1 g6 0 [.int .i64 Wd, .int .i64 Ht] = X2 at *
  replace HE := Hd.mk HE'
  replace HB := Hd.mk HB'
  clear HE' HB'
  go_upto_region 2 with fail
  refine wp_region_vd 3 [12, 13, 14] [2] [] 84 [.int .i64 0, .int .i64 0] [isV (.agg #[.int .i64 Wd, .int .i64 Ht]), isV (.bool false), isV (.bool true)] (by rfl) alloc_Z ?_ ?_
  · intro qi qh qA aa wx hb hs hd
    match qi, qh, qA with
    | 0, _, _ => exact .inl ⟨rfl, op_ldZ rfl rfl (hs 6 rfl) ((HE.out.to hb).get 0 rfl)⟩
    | 1, _, _ => exact .inl ⟨rfl, wp_b (bool_eq HS.out) (op_call1 rfl rfl Try.call53 (by rw [(show aa.eval (.tmp 12) = .agg #[.int .i64 Wd, .int .i64 Ht] from (hd 0 rfl))]; exact valid_got Wd Ht _))⟩
    | 2, _, _ => exact .inl ⟨rfl, ⟨_, op_not rfl (hd 1 rfl), rfl⟩⟩
    | qi + 3, h, _ => omega
  intro vs X3 hb hv hal hne
  replace HB := Hd.mk (bel_then HB.out hb)
  replace HE := Hd.mk (HE.out.to hb)
  have e14 : vs 14 = .bool true := hv 2 (by decide) rfl
  simp only [PA, e14]
  clear hv hal hne hb e14
  go_upto_region 3 with fail
  refine wp_region_vd 0 [] [] [] 84 [.int .i64 0, .int .i64 0] [] (by rfl) alloc_Z ?_ ?_
  · intro qi qh qA aa wx hb hs hd
    match qi, qh, qA with
    | qi + 0, h, _ => omega
  intro vs X4 hb hv hal hne
  replace HB := Hd.mk (bel_then HB.out hb)
  replace HE := Hd.mk (HE.out.to hb)
  simp only [PA]
  clear hv hal hne hb
  go_wp2_with fail
  refine bodyPost_ret (v := .tuple #[.slice none 0 0, .int .i64 2]) (by simp [results, Try.results37, go_sem]) rfl ?_
  exact ⟨_, rfl, HB.out, _, _, rfl, rfl, rfl⟩
set_option maxRecDepth 100000 in
set_option maxHeartbeats 1000000 in
theorem SMov_sz (Wd Ht : Int) (A : Option Addr) (k : Nat) (l : List Mv) (w : World) (hrm : RdM w A l) (hln : l.length ≤ 9223372036854775807) (hs : sizeB Wd Ht = false) :
    Calls Try.prog 9 #[.int .i64 Wd, .int .i64 Ht, .slice A l.length k] w (Got w (isV (.bool true)).p) := by
  have HRM := Hd.mk hrm
  have HS := Hd.mk hs
  clear hrm hs
  go_enter Try.func9, Try.ntmps9
  go_upto_region 1 with fail
  have HE : Hd (Env w []) := ⟨trivial⟩
  have HB : Hd (Below w.heap.size w w) := ⟨Below.refl _ _⟩
  refine wp_region_vd 6 [15, 16, 17, 14, 18, 19] [0, 1, 3, 4, 5] [] 84 [.int .i64 0, .int .i64 0] [isV (.int .i64 Wd), isV (.int .i64 Ht), isP (isV (.slice none 0 0)) (isV (.int .i64 2)), isP (isV (.slice none 0 0)) (isV (.int .i64 2)), isV (.slice none 0 0), isV (.int .i64 2)] (by rfl) alloc_Z ?_ ?_
  · intro qi qh qA aa wx hb hs hd
    match qi, qh, qA with
    | 0, _, _ => exact .inl ⟨rfl, op_mv rfl (hs 0 rfl)⟩
    | 1, _, _ => exact .inl ⟨rfl, op_mv rfl (hs 1 rfl)⟩
    | 2, _, _ => exact .inl ⟨rfl, op_call2 rfl rfl Try.call37 (by rw [show aa.eval (.tmp 15) = _ from hd 0 rfl, show aa.eval (.tmp 16) = _ from hd 1 rfl]; exact Moves_no Wd Ht _ HS.out)⟩
    | 3, _, _ => exact .inl ⟨rfl, op_mv rfl (hd 2 rfl)⟩
    | 4, _, _ => exact .inl ⟨rfl, op_fst rfl (hd 3 rfl)⟩
    | 5, _, _ => exact .inl ⟨rfl, op_snd rfl (hd 3 rfl)⟩
    | qi + 6, h, _ => omega
  intro vs X1 hb hv hal hne
  replace HB := Hd.mk (bel_then HB.out hb)
  replace HE := Hd.mk (HE.out.to hb)
  have e18 : vs 18 = .slice none 0 0 := hv 4 (by decide) rfl
  have e19 : vs 19 = .int .i64 2 := hv 5 (by decide) rfl
  simp only [PA, e18, e19]
  clear hv hal hne hb e18 e19
  go_upto_region 2 with fail
  refine wp_region_vd 8 [21, 22, 23, 24, 25, 20, 26, 27] [0, 1, 2, 5, 6, 7] [] 84 [.int .i64 0, .int .i64 0] [isV (.int .i64 Wd), isV (.int .i64 Ht), isV (.slice A l.length k), isSs w.heap.size (l.take 521), isP (isV (.slice none 0 0)) (isV (.int .i64 2)), isP (isV (.slice none 0 0)) (isV (.int .i64 2)), isV (.slice none 0 0), isV (.int .i64 2)] (by rfl) alloc_Z ?_ ?_
  · intro qi qh qA aa wx hb hs hd
    match qi, qh, qA with
    | 0, _, _ => exact .inl ⟨rfl, op_mv rfl (hs 0 rfl)⟩
    | 1, _, _ => exact .inl ⟨rfl, op_mv rfl (hs 1 rfl)⟩
    | 2, _, _ => exact .inl ⟨rfl, op_mv rfl (hs 2 rfl)⟩
    | 3, _, _ => exact .inl ⟨rfl, op_call1 rfl rfl Try.call30 (by rw [show aa.eval (.tmp 23) = _ from hd 2 rfl]; exact got_ss (Nat.le_trans HB.out.size hb.size) (moves_got A k l _ (HRM.out.to (bel_then HB.out hb)) hln))⟩
    | 4, _, _ => exact .inl ⟨rfl, op_call3 rfl rfl Try.call38 (by obtain ⟨A', k', e, r, _⟩ := row_reads (hd 3 rfl); rw [show aa.eval (.tmp 21) = _ from hd 0 rfl, show aa.eval (.tmp 22) = _ from hd 1 rfl, show aa.eval (.tmp 24) = _ from e]; exact Close_sz Wd Ht A' k' (l.take 521) _ HS.out)⟩
    | 5, _, _ => exact .inl ⟨rfl, op_mv rfl (hd 4 rfl)⟩
    | 6, _, _ => exact .inl ⟨rfl, op_fst rfl (hd 5 rfl)⟩
    | 7, _, _ => exact .inl ⟨rfl, op_snd rfl (hd 5 rfl)⟩
    | qi + 8, h, _ => omega
  intro vs X2 hb hv hal hne
  replace HB := Hd.mk (bel_then HB.out hb)
  replace HE := Hd.mk (HE.out.to hb)
  have e26 : vs 26 = .slice none 0 0 := hv 6 (by decide) rfl
  have e27 : vs 27 = .int .i64 2 := hv 7 (by decide) rfl
  simp only [PA, e26, e27]
  clear hv hal hne hb e26 e27
  go_upto_region 3 with fail
  refine wp_region_vd 4 [28, 29, 30, 31] [0, 1, 3] [] 84 [.int .i64 0, .int .i64 0] [isV (.int .i64 Wd), isV (.int .i64 Ht), isV (.bool false), isV (.bool true)] (by rfl) alloc_Z ?_ ?_
  · intro qi qh qA aa wx hb hs hd
    match qi, qh, qA with
    | 0, _, _ => exact .inl ⟨rfl, op_mv rfl (hs 0 rfl)⟩
    | 1, _, _ => exact .inl ⟨rfl, op_mv rfl (hs 1 rfl)⟩
    | 2, _, _ => exact .inl ⟨rfl, wp_b (bool_eq HS.out) (op_call2 rfl rfl Try.call25 (by rw [(show aa.eval (.tmp 28) = .int .i64 Wd from (hd 0 rfl)), (show aa.eval (.tmp 29) = .int .i64 Ht from (hd 1 rfl))]; exact rSize_got Wd Ht _))⟩
    | 3, _, _ => exact .inl ⟨rfl, ⟨_, op_not rfl (hd 2 rfl), rfl⟩⟩
    | qi + 4, h, _ => omega
  intro vs X3 hb hv hal hne
  replace HB := Hd.mk (bel_then HB.out hb)
  replace HE := Hd.mk (HE.out.to hb)
  have e31 : vs 31 = .bool true := hv 3 (by decide) rfl
  simp only [PA, e31]
  clear hv hal hne hb e31
  go_upto_region 4 with fail
  refine wp_region_vd 17 [32, 33, 34, 35, 36, 37, 38, 39, 40, 41, 42, 43, 44, 45, 46, 47, 48] [0, 2, 4, 5, 6, 7, 8, 9, 10, 11, 12, 13, 14, 16] [] 84 [.int .i64 0, .int .i64 0] [isV (.slice none 0 0), isV (.int .i64 (((0 : Nat) : Int))), isV (.slice none 0 0), isV (.int .i64 (((0 : Nat) : Int))), isV (.int .i64 ((((0 : Nat) : Int)) + (((0 : Nat) : Int)))), isV (.bool true), isV (.bool true), isV (.int .i64 2), isV (.bool true), isV (.bool true), isV (.bool true), isV (.int .i64 2), isV (.bool true), isV (.bool true), isV (.bool true), isV (.bool true), isV (.bool true)] (by rfl) alloc_Z ?_ ?_
  · intro qi qh qA aa wx hb hs hd
    match qi, qh, qA with
    | 0, _, _ => exact .inl ⟨rfl, op_mv rfl (hs 7 rfl)⟩
    | 1, _, _ => exact .inl ⟨rfl, op_lenvVM rfl rfl (hd 0 rfl)⟩
    | 2, _, _ => exact .inl ⟨rfl, op_mv rfl (hs 9 rfl)⟩
    | 3, _, _ => exact .inl ⟨rfl, op_lenvVM rfl rfl (hd 2 rfl)⟩
    | 4, _, _ => exact .inl ⟨rfl, ⟨_, op_add (by unfold Fit; omega) rfl (hd 1 rfl) (hd 3 rfl), rfl⟩⟩
    | 5, _, _ => exact .inl ⟨rfl, pure_b (bool_eq (by decide)) (⟨_, op_eqlI rfl (hd 4 rfl) rfl, rfl⟩)⟩
    | 6, _, _ => exact .inl ⟨rfl, op_mv rfl (hd 5 rfl)⟩
    | 7, _, _ => exact .inl ⟨⟨rfl, .inl (hd 6 rfl)⟩, op_mv rfl (hs 8 rfl)⟩
    | 8, _, _ => exact .inl ⟨⟨rfl, .inl (hd 6 rfl)⟩, pure_b (bool_eq (by decide)) (⟨_, op_eqlE rfl (hd 7 rfl) rfl, rfl⟩)⟩
    | 9, _, _ => exact .inl ⟨rfl, ⟨_, op_pickT rfl (hd 6 rfl) (hd 8 rfl), rfl⟩⟩
    | 10, _, _ => exact .inl ⟨rfl, op_mv rfl (hd 9 rfl)⟩
    | 11, _, _ => exact .inl ⟨⟨rfl, .inl (hd 10 rfl)⟩, op_mv rfl (hs 10 rfl)⟩
    | 12, _, _ => exact .inl ⟨⟨rfl, .inl (hd 10 rfl)⟩, pure_b (bool_eq (by decide)) (⟨_, op_eqlE rfl (hd 11 rfl) rfl, rfl⟩)⟩
    | 13, _, _ => exact .inl ⟨rfl, ⟨_, op_pickT rfl (hd 10 rfl) (hd 12 rfl), rfl⟩⟩
    | 14, _, _ => exact .inl ⟨rfl, op_mv rfl (hd 13 rfl)⟩
    | 15, _, _ => exact .inl ⟨⟨rfl, .inl (hd 14 rfl)⟩, op_call0 rfl rfl Try.call18 (awake_got _)⟩
    | 16, _, _ => exact .inl ⟨rfl, ⟨_, op_pickT rfl (hd 14 rfl) (hd 15 rfl), rfl⟩⟩
    | qi + 17, h, _ => omega
  intro vs X4 hb hv hal hne
  replace HB := Hd.mk (bel_then HB.out hb)
  replace HE := Hd.mk (HE.out.to hb)
  have e48 : vs 48 = .bool true := hv 16 (by decide) rfl
  simp only [PA, e48]
  clear hv hal hne hb e48
  go_wp2_with fail
  go_ret
  exact ⟨_, rfl, HB.out, rfl⟩
set_option maxRecDepth 100000 in
set_option maxHeartbeats 1000000 in
theorem SMov_big (Wn Hn : Nat) (A : Option Addr) (k : Nat) (l : List Mv) (w : World) (hrm : RdM w A l) (hln : l.length ≤ 9223372036854775807) (hs : sizeB Wn Hn = true) (hb16 : 16 < l.length) :
    Calls Try.prog 9 #[.int .i64 (((Wn : Nat) : Int)), .int .i64 (((Hn : Nat) : Int)), .slice A l.length k] w (Got w (isV (.bool true)).p) := by
  have hwh := sizeB_bounds hs
  have hLN : (mvs1 Wn Hn 2).length ≤ 512 := len1 Wn Hn (by omega) (by omega) 2
  have HRM := Hd.mk hrm
  have HS := Hd.mk hs
  clear hrm hs
  go_enter Try.func9, Try.ntmps9
  go_upto_region 1 with fail
  have HE : Hd (Env w []) := ⟨trivial⟩
  have HB : Hd (Below w.heap.size w w) := ⟨Below.refl _ _⟩
  refine wp_region_vd 6 [15, 16, 17, 14, 18, 19] [0, 1, 3, 4, 5] [] 84 [.int .i64 0, .int .i64 0] [isV (.int .i64 (((Wn : Nat) : Int))), isV (.int .i64 (((Hn : Nat) : Int))), isP (isRd 31 ((mvs1 Wn Hn 2))) (isV (.int .i64 0)), isP (isRd 31 ((mvs1 Wn Hn 2))) (isV (.int .i64 0)), isRd 31 ((mvs1 Wn Hn 2)), isV (.int .i64 0)] (by rfl) alloc_Z ?_ ?_
  · intro qi qh qA aa wx hb hs hd
    match qi, qh, qA with
    | 0, _, _ => exact .inl ⟨rfl, op_mv rfl (hs 0 rfl)⟩
    | 1, _, _ => exact .inl ⟨rfl, op_mv rfl (hs 1 rfl)⟩
    | 2, _, _ => exact .inl ⟨rfl, op_call2 rfl rfl Try.call37 (by rw [show aa.eval (.tmp 15) = _ from hd 0 rfl, show aa.eval (.tmp 16) = _ from hd 1 rfl]; exact got_rdT (Moves_ok Wn Hn _ HS.out))⟩
    | 3, _, _ => exact .inl ⟨rfl, op_mv rfl (hd 2 rfl)⟩
    | 4, _, _ => exact .inl ⟨rfl, op_fst rfl (hd 3 rfl)⟩
    | 5, _, _ => exact .inl ⟨rfl, op_snd rfl (hd 3 rfl)⟩
    | qi + 6, h, _ => omega
  intro vs X1 hb hv hal hne
  replace HB := Hd.mk (bel_then HB.out hb)
  replace HE := Hd.mk (HE.out.to hb)
  obtain ⟨A18, k18, e18, r18⟩ : (isRd 31 ((mvs1 Wn Hn 2))).p (vs 18) X1 := hv 4 (by decide) rfl
  have HRA := Hd.mk r18.rd
  have OKA := Hd.mk r18
  clear r18
  have e19 : vs 19 = .int .i64 0 := hv 5 (by decide) rfl
  simp only [PA, e18, e19]
  clear hv hal hne hb e18 e19
  go_upto_region 2 with fail
  refine wp_region_vd 8 [21, 22, 23, 24, 25, 20, 26, 27] [0, 1, 2, 5, 6, 7] [] 84 [.int .i64 0, .int .i64 0] [isV (.int .i64 (((Wn : Nat) : Int))), isV (.int .i64 (((Hn : Nat) : Int))), isV (.slice A l.length k), isSs w.heap.size (l.take 521), isP (isV (.slice none 0 0)) (isV (.int .i64 2)), isP (isV (.slice none 0 0)) (isV (.int .i64 2)), isV (.slice none 0 0), isV (.int .i64 2)] (by rfl) alloc_Z ?_ ?_
  · intro qi qh qA aa wx hb hs hd
    match qi, qh, qA with
    | 0, _, _ => exact .inl ⟨rfl, op_mv rfl (hs 0 rfl)⟩
    | 1, _, _ => exact .inl ⟨rfl, op_mv rfl (hs 1 rfl)⟩
    | 2, _, _ => exact .inl ⟨rfl, op_mv rfl (hs 2 rfl)⟩
    | 3, _, _ => exact .inl ⟨rfl, op_call1 rfl rfl Try.call30 (by rw [show aa.eval (.tmp 23) = _ from hd 2 rfl]; exact got_ss (Nat.le_trans HB.out.size hb.size) (moves_got A k l _ (HRM.out.to (bel_then HB.out hb)) hln))⟩
    | 4, _, _ => exact .inl ⟨rfl, op_call3 rfl rfl Try.call38 (by obtain ⟨A', k', e, r, _⟩ := row_reads (hd 3 rfl); rw [show aa.eval (.tmp 21) = _ from hd 0 rfl, show aa.eval (.tmp 22) = _ from hd 1 rfl, show aa.eval (.tmp 24) = _ from e]; exact Close_big Wn Hn A' k' (l.take 521) _ r (by rw [List.length_take]; omega) HS.out (by rw [List.length_take]; omega))⟩
    | 5, _, _ => exact .inl ⟨rfl, op_mv rfl (hd 4 rfl)⟩
    | 6, _, _ => exact .inl ⟨rfl, op_fst rfl (hd 5 rfl)⟩
    | 7, _, _ => exact .inl ⟨rfl, op_snd rfl (hd 5 rfl)⟩
    | qi + 8, h, _ => omega
  intro vs X2 hb hv hal hne
  replace HB := Hd.mk (bel_then HB.out hb)
  replace HE := Hd.mk (HE.out.to hb)
  replace OKA := Hd.mk (OKA.out.to hb)
  have e26 : vs 26 = .slice none 0 0 := hv 6 (by decide) rfl
  have e27 : vs 27 = .int .i64 2 := hv 7 (by decide) rfl
  simp only [PA, e26, e27]
  clear hv hal hne hb e26 e27
  go_upto_region 3 with fail
  refine wp_region_vd 4 [28, 29, 30, 31] [0, 1, 3] [] 84 [.int .i64 0, .int .i64 0] [isV (.int .i64 (((Wn : Nat) : Int))), isV (.int .i64 (((Hn : Nat) : Int))), isV (.bool true), isV (.bool false)] (by rfl) alloc_Z ?_ ?_
  · intro qi qh qA aa wx hb hs hd
    match qi, qh, qA with
    | 0, _, _ => exact .inl ⟨rfl, op_mv rfl (hs 0 rfl)⟩
    | 1, _, _ => exact .inl ⟨rfl, op_mv rfl (hs 1 rfl)⟩
    | 2, _, _ => exact .inl ⟨rfl, wp_b (bool_eq HS.out) (op_call2 rfl rfl Try.call25 (by rw [(show aa.eval (.tmp 28) = .int .i64 (((Wn : Nat) : Int)) from (hd 0 rfl)), (show aa.eval (.tmp 29) = .int .i64 (((Hn : Nat) : Int)) from (hd 1 rfl))]; exact rSize_got Wn Hn _))⟩
    | 3, _, _ => exact .inl ⟨rfl, ⟨_, op_not rfl (hd 2 rfl), rfl⟩⟩
    | qi + 4, h, _ => omega
  intro vs X3 hb hv hal hne
  replace HB := Hd.mk (bel_then HB.out hb)
  replace HE := Hd.mk (HE.out.to hb)
  replace OKA := Hd.mk (OKA.out.to hb)
  have e31 : vs 31 = .bool false := hv 3 (by decide) rfl
  simp only [PA, e31]
  clear hv hal hne hb e31
  go_upto_region 5 with fail
  refine wp_region_vd 11 [49, 50, 51, 52, 53, 54, 55, 56, 57, 58, 59] [0, 2, 3, 6, 7, 8, 9, 10] [] 84 [.int .i64 0, .int .i64 0] [isV (.slice A18 (((mvs1 Wn Hn 2)).length) k18), isMs w.heap.size (mvs1 Wn Hn 2), isV (.int .i64 (((Wn : Nat) : Int))), isV (.int .i64 (((Hn : Nat) : Int))), isMs w.heap.size (mvs1 Wn Hn 2), isV (.bool true), isV (.bool false), isV (.bool false), isV (.int .i64 0), isV (.bool false), isV (.bool false)] (by rfl) alloc_Z ?_ ?_
  · intro qi qh qA aa wx hb hs hd
    match qi, qh, qA with
    | 0, _, _ => exact .inl ⟨rfl, op_mv rfl (hs 7 rfl)⟩
    | 1, _, _ => exact .inl ⟨rfl, op_call1 rfl rfl Try.call40 (by rw [show aa.eval (.tmp 49) = _ from hd 0 rfl]; exact got_ms (Nat.le_trans HB.out.size hb.size) (ownMoves_got A18 k18 (mvs1 Wn Hn 2) _ (OKA.out.to hb).rd (by omega)))⟩
    | 2, _, _ => exact .inl ⟨rfl, op_mv rfl (hs 0 rfl)⟩
    | 3, _, _ => exact .inl ⟨rfl, op_mv rfl (hs 1 rfl)⟩
    | 4, _, _ => exact .inl ⟨rfl, op_call2 rfl rfl Try.call41 (by rw [show aa.eval (.tmp 51) = _ from hd 2 rfl, show aa.eval (.tmp 52) = _ from hd 3 rfl]; exact got_ms (Nat.le_trans HB.out.size hb.size) (rMoves_got Wn Hn (by omega) (by omega) _))⟩
    | 5, _, _ => exact .inl ⟨rfl, op_call2 rfl rfl Try.call39 (by obtain ⟨A1, k1, e1, r1⟩ := ms_reads (hd 1 rfl); obtain ⟨A2, k2, e2, r2⟩ := ms_reads (hd 4 rfl); rw [show aa.eval (.tmp 50) = _ from e1, show aa.eval (.tmp 53) = _ from e2]; exact equalM_same A1 k1 A2 k2 _ _ r1 r2 (by omega))⟩
    | 6, _, _ => exact .inl ⟨rfl, ⟨_, op_not rfl (hd 5 rfl), rfl⟩⟩
    | 7, _, _ => exact .inl ⟨rfl, op_mv rfl (hd 6 rfl)⟩
    | 8, _, _ => exact .inl ⟨⟨rfl, .inl (hd 7 rfl)⟩, op_mv rfl (hs 8 rfl)⟩
    | 9, _, _ => exact .inl ⟨⟨rfl, .inl (hd 7 rfl)⟩, pure_b (bool_eq (by decide)) (⟨_, op_neqE rfl (hd 8 rfl) rfl, rfl⟩)⟩
    | 10, _, _ => exact .inl ⟨rfl, ⟨_, op_pickF rfl (hd 7 rfl) (hd 9 rfl), rfl⟩⟩
    | qi + 11, h, _ => omega
  intro vs X4 hb hv hal hne
  replace HB := Hd.mk (bel_then HB.out hb)
  replace HE := Hd.mk (HE.out.to hb)
  replace OKA := Hd.mk (OKA.out.to hb)
  have e59 : vs 59 = .bool false := hv 10 (by decide) rfl
  simp only [PA, e59]
  clear hv hal hne hb e59
  go_upto_region 7 with fail
  refine wp_region_vd 3 [60, 61, 62] [0, 2] [] 84 [.int .i64 0, .int .i64 0] [isV (.slice A l.length k), isV (.int .i64 (((l.length : Nat) : Int))), isV (.bool false)] (by rfl) alloc_Z ?_ ?_
  · intro qi qh qA aa wx hb hs hd
    match qi, qh, qA with
    | 0, _, _ => exact .inl ⟨rfl, op_mv rfl (hs 2 rfl)⟩
    | 1, _, _ => exact .inl ⟨rfl, op_lenvVN rfl rfl (hd 0 rfl)⟩
    | 2, _, _ => exact .inl ⟨rfl, pure_b (bool_eq (decide_eq_false (by omega))) (⟨_, op_leqI rfl (hd 1 rfl) rfl, rfl⟩)⟩
    | qi + 3, h, _ => omega
  intro vs X5 hb hv hal hne
  replace HB := Hd.mk (bel_then HB.out hb)
  replace HE := Hd.mk (HE.out.to hb)
  replace OKA := Hd.mk (OKA.out.to hb)
  have e62 : vs 62 = .bool false := hv 2 (by decide) rfl
  simp only [PA, e62]
  clear hv hal hne hb e62
  go_upto_region 8 with fail
  refine wp_region_vd 3 [63, 64, 65] [0, 2] [] 84 [.int .i64 0, .int .i64 0] [isV (.slice A l.length k), isV (.int .i64 (((l.length : Nat) : Int))), isV (.int .i64 0)] (by rfl) alloc_Z ?_ ?_
  · intro qi qh qA aa wx hb hs hd
    match qi, qh, qA with
    | 0, _, _ => exact .inl ⟨rfl, op_mv rfl (hs 2 rfl)⟩
    | 1, _, _ => exact .inl ⟨rfl, op_lenvVN rfl rfl (hd 0 rfl)⟩
    | 2, _, _ => exact .inl ⟨rfl, op_mv rfl rfl⟩
    | qi + 3, h, _ => omega
  intro vs X6 hb hv hal hne
  replace HB := Hd.mk (bel_then HB.out hb)
  replace HE := Hd.mk (HE.out.to hb)
  replace OKA := Hd.mk (OKA.out.to hb)
  have e63 : vs 63 = .slice A l.length k := hv 0 (by decide) rfl
  have e64 : vs 64 = .int .i64 (((l.length : Nat) : Int)) := hv 1 (by decide) rfl
  have e65 : vs 65 = .int .i64 0 := hv 2 (by decide) rfl
  simp only [PA, e63, e64, e65]
  clear hv hal hne hb e63 e64 e65
  go_wp2_with fail
  go_loopw [11, 65] (fun s11 s65 wr => ∃ j : Nat, j ≤ l.length ∧ s65 = .int .i64 j ∧ s11 = .bool (false) ∧ RdT 31 wr A18 (mvs1 Wn Hn 2) ∧ Env wr [] ∧ Below w.heap.size w wr) (fun _ s65 _ => l.length - (intOf s65).toNat)
  case atStart => exact ⟨0, Nat.zero_le _, rfl, rfl, OKA.out, HE.out, HB.out⟩
  case round =>
    obtain ⟨j, hjl, rfl, rfl, hak, he, hb⟩ := hrel
    clear HB HE OKA
    have HB := Hd.mk hb
    have OKA := Hd.mk hak
    have HE : Hd (Env wr []) := ⟨he⟩
    clear he hb hak
    by_cases hj : j < l.length
    · obtain ⟨m, hm⟩ : ∃ m, l[j]? = some m := ⟨_, List.getElem?_eq_getElem hj⟩
      obtain ⟨ad, rfl⟩ := HRM.out.some_ hm
      have HMJ := Hd.mk hm
      clear hm
      go_upto_region 10 with fail
      refine wp_region_vd 4 [67, 68, 69, 13] [0] [3] 26 [.int .i64 0, .int .i64 0, .int .i64 0, .bool false] [isV (.int .i64 (((j : Nat) : Int))), isV (.pointer (some (ad.add (j * 4)))), isV (.agg #[.int .i64 m.x, .int .i64 m.y, .int .i64 m.t, .bool m.f]), SP.any] (by rfl) alloc_N ?_ ?_
      · intro qi qh qA aa wx hb hs hd
        match qi, qh, qA with
        | 0, _, _ => exact .inl ⟨rfl, op_mv rfl (hs 65 rfl)⟩
        | 1, _, _ => exact .inl ⟨rfl, op_run rfl (op_idxVN hj rfl (hs 63 rfl) (hs 65 rfl) _) rfl⟩
        | 2, _, _ => exact .inl ⟨rfl, op_ldvVN rfl rfl (hd 1 rfl) ((HRM.out.to (bel_then HB.out hb)).at_ HMJ.out)⟩
        | 3, _, h => cases h
        | qi + 4, h, _ => omega
      intro vs X1 hb hv hal hne
      have HL0 := Hd.mk (HE.out.lt)
      have HBW := HB
      replace HB := Hd.mk (bel_then HB.out hb)
      replace HE := Hd.mk (HE.out.to hb)
      replace OKA := Hd.mk (OKA.out.to hb)
      have e67 : vs 67 = .int .i64 (((j : Nat) : Int)) := hv 0 (by decide) rfl
      have e69 : vs 69 = .agg #[.int .i64 m.x, .int .i64 m.y, .int .i64 m.t, .bool m.f] := hv 2 (by decide) rfl
      obtain ⟨g13, e13, l13, b13⟩ : ∃ g, vs 13 = .pointer (some ⟨g, 0, none⟩) ∧ _ := hal 3 rfl
      replace HE : Hd (Env X1 [⟨g13, 26, [.int .i64 0, .int .i64 0, .int .i64 0, .bool false]⟩]) := ⟨Env.addne (e := ⟨g13, 26, [.int .i64 0, .int .i64 0, .int .i64 0, .bool false]⟩) HE.out b13 (fun e' he => Nat.ne_of_lt (Nat.lt_of_lt_of_le (HL0.out e' he) l13))⟩
      have G13 : Hd (w.heap.size ≤ g13) := ⟨Nat.le_trans HBW.out.size l13⟩
      simp only [PA, e67, e69, e13]
      clear hv hal hne hb HL0 HBW e67 e69 e13 l13 b13
      refine wpList_run rfl (op_asgE (v := .int .i64 (((j : Nat) : Int))) rfl rfl _) ?_
      simp only [Act.put, List.setIfInBounds_toArray, List.set_cons_succ, List.set_cons_zero]
      refine wpList_st rfl rfl rfl rfl rfl (sto_N (HE.out.get 0 rfl)) ?_
      have HE' : Env (putL X1 g13 0 [.int .i64 m.x, .int .i64 m.y, .int .i64 m.t, .bool m.f]) [⟨g13, 26, [.int .i64 m.x, .int .i64 m.y, .int .i64 m.t, .bool m.f]⟩] := HE.out.putF 0 rfl rfl
      have HB' := putL_below (show w.heap.size ≤ g13 from G13.out) [.int .i64 m.x, .int .i64 m.y, .int .i64 m.t, .bool m.f] _ 0 HB.out
      replace OKA := Hd.mk (OKA.out.putB (vs := [.int .i64 m.x, .int .i64 m.y, .int .i64 m.t, .bool m.f]) (o := 0) (HE.out.get 0 rfl))
      generalize putL X1 g13 0 [.int .i64 m.x, .int .i64 m.y, .int .i64 m.t, .bool m.f] = X2 at *
      replace HE := Hd.mk HE'
      replace HB := Hd.mk HB'
      clear HE' HB'
      go_upto_region 11 with fail
      refine wp_region_vd 11 [70, 71, 72, 73, 74, 75, 76, 77, 78, 79, 80] [0, 1, 10] [] 84 [.int .i64 0, .int .i64 0] [isV (.bool false), isV (.bool false), isV undef, isV undef, isV undef, isV undef, isV undef, isV undef, isV undef, isV undef, isV (.bool false)] (by rfl) alloc_Z ?_ ?_
      · intro qi qh qA aa wx hb hs hd
        match qi, qh, qA with
        | 0, _, _ => exact .inl ⟨rfl, op_mv rfl (hs 11 rfl)⟩
        | 1, _, _ => exact .inl ⟨rfl, op_mv rfl (hd 0 rfl)⟩
        | 2, _, _ => exact .inr ⟨⟨rfl, .inl (hd 1 rfl)⟩, rfl⟩
        | 3, _, _ => exact .inr ⟨⟨rfl, .inl (hd 1 rfl)⟩, rfl⟩
        | 4, _, _ => exact .inr ⟨⟨rfl, .inl (hd 1 rfl)⟩, rfl⟩
        | 5, _, _ => exact .inr ⟨⟨rfl, .inr ⟨rfl, hd 4 rfl⟩⟩, rfl⟩
        | 6, _, _ => exact .inr ⟨⟨rfl, .inr ⟨rfl, hd 4 rfl⟩⟩, rfl⟩
        | 7, _, _ => exact .inr ⟨⟨rfl, .inr ⟨rfl, hd 4 rfl⟩⟩, rfl⟩
        | 8, _, _ => exact .inr ⟨⟨rfl, .inr ⟨rfl, hd 4 rfl⟩⟩, rfl⟩
        | 9, _, _ => exact .inr ⟨⟨rfl, .inl (hd 1 rfl)⟩, rfl⟩
        | 10, _, _ => exact .inl ⟨rfl, ⟨_, op_pickF rfl (hd 1 rfl) rfl, rfl⟩⟩
        | qi + 11, h, _ => omega
      intro vs X3 hb hv hal hne
      replace HB := Hd.mk (bel_then HB.out hb)
      replace HE := Hd.mk (HE.out.to hb)
      replace OKA := Hd.mk (OKA.out.to hb)
      have e80 : vs 80 = .bool false := hv 10 (by decide) rfl
      simp only [PA, e80]
      clear hv hal hne hb e80
      go_wp2_with fail
      go_roundw
      case rel => exact ⟨j + 1, by omega, by go_num, rfl, OKA.out, Env.front (L := []) HE.out, HB.out⟩
      case measure => simp [intOf]; omega
    have e1 : j = l.length := by omega
    clear e1
    go_upto_region 13 with fail
    refine wp_region_vd 2 [82, 83] [0, 1] [] 84 [.int .i64 0, .int .i64 0] [isV (.bool false), isV (.bool true)] (by rfl) alloc_Z ?_ ?_
    · intro qi qh qA aa wx hb hs hd
      match qi, qh, qA with
      | 0, _, _ => exact .inl ⟨rfl, op_mv rfl (hs 11 rfl)⟩
      | 1, _, _ => exact .inl ⟨rfl, ⟨_, op_not rfl (hd 0 rfl), rfl⟩⟩
      | qi + 2, h, _ => omega
    intro vs X1 hb hv hal hne
    replace HB := Hd.mk (bel_then HB.out hb)
    replace HE := Hd.mk (HE.out.to hb)
    replace OKA := Hd.mk (OKA.out.to hb)
    have e83 : vs 83 = .bool true := hv 1 (by decide) rfl
    simp only [PA, e83]
    clear hv hal hne hb e83
    go_upto_region 14 with fail
    refine wp_region_vd 10 [84, 85, 86, 87, 88, 89, 90, 91, 92, 93] [0, 2, 3, 4, 5, 6, 7, 9] [] 84 [.int .i64 0, .int .i64 0] [isV (.slice none 0 0), isV (.int .i64 (((0 : Nat) : Int))), isV (.bool true), isV (.bool true), isV (.int .i64 2), isV (.bool true), isV (.bool true), isV (.bool true), isV (.bool true), isV (.bool true)] (by rfl) alloc_Z ?_ ?_
    · intro qi qh qA aa wx hb hs hd
      match qi, qh, qA with
      | 0, _, _ => exact .inl ⟨rfl, op_mv rfl (hs 9 rfl)⟩
      | 1, _, _ => exact .inl ⟨rfl, op_lenvVM rfl rfl (hd 0 rfl)⟩
      | 2, _, _ => exact .inl ⟨rfl, pure_b (bool_eq (by decide)) (⟨_, op_eqlI rfl (hd 1 rfl) rfl, rfl⟩)⟩
      | 3, _, _ => exact .inl ⟨rfl, op_mv rfl (hd 2 rfl)⟩
      | 4, _, _ => exact .inl ⟨⟨rfl, .inl (hd 3 rfl)⟩, op_mv rfl (hs 10 rfl)⟩
      | 5, _, _ => exact .inl ⟨⟨rfl, .inl (hd 3 rfl)⟩, pure_b (bool_eq (by decide)) (⟨_, op_eqlE rfl (hd 4 rfl) rfl, rfl⟩)⟩
      | 6, _, _ => exact .inl ⟨rfl, ⟨_, op_pickT rfl (hd 3 rfl) (hd 5 rfl), rfl⟩⟩
      | 7, _, _ => exact .inl ⟨rfl, op_mv rfl (hd 6 rfl)⟩
      | 8, _, _ => exact .inl ⟨⟨rfl, .inl (hd 7 rfl)⟩, op_call0 rfl rfl Try.call18 (awake_got _)⟩
      | 9, _, _ => exact .inl ⟨rfl, ⟨_, op_pickT rfl (hd 7 rfl) (hd 8 rfl), rfl⟩⟩
      | qi + 10, h, _ => omega
    intro vs X2 hb hv hal hne
    replace HB := Hd.mk (bel_then HB.out hb)
    replace HE := Hd.mk (HE.out.to hb)
    replace OKA := Hd.mk (OKA.out.to hb)
    have e93 : vs 93 = .bool true := hv 9 (by decide) rfl
    simp only [PA, e93]
    clear hv hal hne hb e93
    go_wp2_with fail
    go_ret
    exact ⟨_, rfl, HB.out, rfl⟩
set_option maxRecDepth 100000 in
set_option maxHeartbeats 1000000 in
theorem SMov_bad (Wn Hn : Nat) (A : Option Addr) (k : Nat) (l : List Mv) (w : World) (hrm : RdM w A l) (hln : l.length ≤ 9223372036854775807) (hs : sizeB Wn Hn = true) (h16 : l.length ≤ 16) (hfb : fitB Wn Hn l = false) :
    Calls Try.prog 9 #[.int .i64 (((Wn : Nat) : Int)), .int .i64 (((Hn : Nat) : Int)), .slice A l.length k] w (Got w (isV (.bool true)).p) := by
  have hwh := sizeB_bounds hs
  have hLN : (mvs1 Wn Hn 2).length ≤ 512 := len1 Wn Hn (by omega) (by omega) 2
  have HRM := Hd.mk hrm
  have HS := Hd.mk hs
  have HFB := Hd.mk hfb
  have HTK := Hd.mk (List.take_of_length_le (show l.length ≤ 521 by omega))
  clear hrm hs hfb
  go_enter Try.func9, Try.ntmps9
  go_upto_region 1 with fail
  have HE : Hd (Env w []) := ⟨trivial⟩
  have HB : Hd (Below w.heap.size w w) := ⟨Below.refl _ _⟩
  refine wp_region_vd 6 [15, 16, 17, 14, 18, 19] [0, 1, 3, 4, 5] [] 84 [.int .i64 0, .int .i64 0] [isV (.int .i64 (((Wn : Nat) : Int))), isV (.int .i64 (((Hn : Nat) : Int))), isP (isRd 31 ((mvs1 Wn Hn 2))) (isV (.int .i64 0)), isP (isRd 31 ((mvs1 Wn Hn 2))) (isV (.int .i64 0)), isRd 31 ((mvs1 Wn Hn 2)), isV (.int .i64 0)] (by rfl) alloc_Z ?_ ?_
  · intro qi qh qA aa wx hb hs hd
    match qi, qh, qA with
    | 0, _, _ => exact .inl ⟨rfl, op_mv rfl (hs 0 rfl)⟩
    | 1, _, _ => exact .inl ⟨rfl, op_mv rfl (hs 1 rfl)⟩
    | 2, _, _ => exact .inl ⟨rfl, op_call2 rfl rfl Try.call37 (by rw [show aa.eval (.tmp 15) = _ from hd 0 rfl, show aa.eval (.tmp 16) = _ from hd 1 rfl]; exact got_rdT (Moves_ok Wn Hn _ HS.out))⟩
    | 3, _, _ => exact .inl ⟨rfl, op_mv rfl (hd 2 rfl)⟩
    | 4, _, _ => exact .inl ⟨rfl, op_fst rfl (hd 3 rfl)⟩
    | 5, _, _ => exact .inl ⟨rfl, op_snd rfl (hd 3 rfl)⟩
    | qi + 6, h, _ => omega
  intro vs X1 hb hv hal hne
  replace HB := Hd.mk (bel_then HB.out hb)
  replace HE := Hd.mk (HE.out.to hb)
  obtain ⟨A18, k18, e18, r18⟩ : (isRd 31 ((mvs1 Wn Hn 2))).p (vs 18) X1 := hv 4 (by decide) rfl
  have HRA := Hd.mk r18.rd
  have OKA := Hd.mk r18
  clear r18
  have e19 : vs 19 = .int .i64 0 := hv 5 (by decide) rfl
  simp only [PA, e18, e19]
  clear hv hal hne hb e18 e19
  go_upto_region 2 with fail
  refine wp_region_vd 8 [21, 22, 23, 24, 25, 20, 26, 27] [0, 1, 2, 5, 6, 7] [] 84 [.int .i64 0, .int .i64 0] [isV (.int .i64 (((Wn : Nat) : Int))), isV (.int .i64 (((Hn : Nat) : Int))), isV (.slice A l.length k), isSs w.heap.size (l.take 521), isP (isV (.slice none 0 0)) (isV (.int .i64 2)), isP (isV (.slice none 0 0)) (isV (.int .i64 2)), isV (.slice none 0 0), isV (.int .i64 2)] (by rfl) alloc_Z ?_ ?_
  · intro qi qh qA aa wx hb hs hd
    match qi, qh, qA with
    | 0, _, _ => exact .inl ⟨rfl, op_mv rfl (hs 0 rfl)⟩
    | 1, _, _ => exact .inl ⟨rfl, op_mv rfl (hs 1 rfl)⟩
    | 2, _, _ => exact .inl ⟨rfl, op_mv rfl (hs 2 rfl)⟩
    | 3, _, _ => exact .inl ⟨rfl, op_call1 rfl rfl Try.call30 (by rw [show aa.eval (.tmp 23) = _ from hd 2 rfl]; exact got_ss (Nat.le_trans HB.out.size hb.size) (moves_got A k l _ (HRM.out.to (bel_then HB.out hb)) hln))⟩
    | 4, _, _ => exact .inl ⟨rfl, op_call3 rfl rfl Try.call38 (by obtain ⟨A', k', e, r, _⟩ := row_reads (hd 3 rfl); rw [show aa.eval (.tmp 21) = _ from hd 0 rfl, show aa.eval (.tmp 22) = _ from hd 1 rfl, show aa.eval (.tmp 24) = _ from e]; exact Close_bad Wn Hn A' k' (l.take 521) _ r (by rw [List.length_take]; omega) HS.out (by rw [List.length_take]; omega) (by rw [HTK.out, fit_any, HFB.out]; rfl))⟩
    | 5, _, _ => exact .inl ⟨rfl, op_mv rfl (hd 4 rfl)⟩
    | 6, _, _ => exact .inl ⟨rfl, op_fst rfl (hd 5 rfl)⟩
    | 7, _, _ => exact .inl ⟨rfl, op_snd rfl (hd 5 rfl)⟩
    | qi + 8, h, _ => omega
  intro vs X2 hb hv hal hne
  replace HB := Hd.mk (bel_then HB.out hb)
  replace HE := Hd.mk (HE.out.to hb)
  replace OKA := Hd.mk (OKA.out.to hb)
  have e26 : vs 26 = .slice none 0 0 := hv 6 (by decide) rfl
  have e27 : vs 27 = .int .i64 2 := hv 7 (by decide) rfl
  simp only [PA, e26, e27]
  clear hv hal hne hb e26 e27
  go_upto_region 3 with fail
  refine wp_region_vd 4 [28, 29, 30, 31] [0, 1, 3] [] 84 [.int .i64 0, .int .i64 0] [isV (.int .i64 (((Wn : Nat) : Int))), isV (.int .i64 (((Hn : Nat) : Int))), isV (.bool true), isV (.bool false)] (by rfl) alloc_Z ?_ ?_
  · intro qi qh qA aa wx hb hs hd
    match qi, qh, qA with
    | 0, _, _ => exact .inl ⟨rfl, op_mv rfl (hs 0 rfl)⟩
    | 1, _, _ => exact .inl ⟨rfl, op_mv rfl (hs 1 rfl)⟩
    | 2, _, _ => exact .inl ⟨rfl, wp_b (bool_eq HS.out) (op_call2 rfl rfl Try.call25 (by rw [(show aa.eval (.tmp 28) = .int .i64 (((Wn : Nat) : Int)) from (hd 0 rfl)), (show aa.eval (.tmp 29) = .int .i64 (((Hn : Nat) : Int)) from (hd 1 rfl))]; exact rSize_got Wn Hn _))⟩
    | 3, _, _ => exact .inl ⟨rfl, ⟨_, op_not rfl (hd 2 rfl), rfl⟩⟩
    | qi + 4, h, _ => omega
  intro vs X3 hb hv hal hne
  replace HB := Hd.mk (bel_then HB.out hb)
  replace HE := Hd.mk (HE.out.to hb)
  replace OKA := Hd.mk (OKA.out.to hb)
  have e31 : vs 31 = .bool false := hv 3 (by decide) rfl
  simp only [PA, e31]
  clear hv hal hne hb e31
  go_upto_region 5 with fail
  refine wp_region_vd 11 [49, 50, 51, 52, 53, 54, 55, 56, 57, 58, 59] [0, 2, 3, 6, 7, 8, 9, 10] [] 84 [.int .i64 0, .int .i64 0] [isV (.slice A18 (((mvs1 Wn Hn 2)).length) k18), isMs w.heap.size (mvs1 Wn Hn 2), isV (.int .i64 (((Wn : Nat) : Int))), isV (.int .i64 (((Hn : Nat) : Int))), isMs w.heap.size (mvs1 Wn Hn 2), isV (.bool true), isV (.bool false), isV (.bool false), isV (.int .i64 0), isV (.bool false), isV (.bool false)] (by rfl) alloc_Z ?_ ?_
  · intro qi qh qA aa wx hb hs hd
    match qi, qh, qA with
    | 0, _, _ => exact .inl ⟨rfl, op_mv rfl (hs 7 rfl)⟩
    | 1, _, _ => exact .inl ⟨rfl, op_call1 rfl rfl Try.call40 (by rw [show aa.eval (.tmp 49) = _ from hd 0 rfl]; exact got_ms (Nat.le_trans HB.out.size hb.size) (ownMoves_got A18 k18 (mvs1 Wn Hn 2) _ (OKA.out.to hb).rd (by omega)))⟩
    | 2, _, _ => exact .inl ⟨rfl, op_mv rfl (hs 0 rfl)⟩
    | 3, _, _ => exact .inl ⟨rfl, op_mv rfl (hs 1 rfl)⟩
    | 4, _, _ => exact .inl ⟨rfl, op_call2 rfl rfl Try.call41 (by rw [show aa.eval (.tmp 51) = _ from hd 2 rfl, show aa.eval (.tmp 52) = _ from hd 3 rfl]; exact got_ms (Nat.le_trans HB.out.size hb.size) (rMoves_got Wn Hn (by omega) (by omega) _))⟩
    | 5, _, _ => exact .inl ⟨rfl, op_call2 rfl rfl Try.call39 (by obtain ⟨A1, k1, e1, r1⟩ := ms_reads (hd 1 rfl); obtain ⟨A2, k2, e2, r2⟩ := ms_reads (hd 4 rfl); rw [show aa.eval (.tmp 50) = _ from e1, show aa.eval (.tmp 53) = _ from e2]; exact equalM_same A1 k1 A2 k2 _ _ r1 r2 (by omega))⟩
    | 6, _, _ => exact .inl ⟨rfl, ⟨_, op_not rfl (hd 5 rfl), rfl⟩⟩
    | 7, _, _ => exact .inl ⟨rfl, op_mv rfl (hd 6 rfl)⟩
    | 8, _, _ => exact .inl ⟨⟨rfl, .inl (hd 7 rfl)⟩, op_mv rfl (hs 8 rfl)⟩
    | 9, _, _ => exact .inl ⟨⟨rfl, .inl (hd 7 rfl)⟩, pure_b (bool_eq (by decide)) (⟨_, op_neqE rfl (hd 8 rfl) rfl, rfl⟩)⟩
    | 10, _, _ => exact .inl ⟨rfl, ⟨_, op_pickF rfl (hd 7 rfl) (hd 9 rfl), rfl⟩⟩
    | qi + 11, h, _ => omega
  intro vs X4 hb hv hal hne
  replace HB := Hd.mk (bel_then HB.out hb)
  replace HE := Hd.mk (HE.out.to hb)
  replace OKA := Hd.mk (OKA.out.to hb)
  have e59 : vs 59 = .bool false := hv 10 (by decide) rfl
  simp only [PA, e59]
  clear hv hal hne hb e59
  go_upto_region 7 with fail
  refine wp_region_vd 3 [60, 61, 62] [0, 2] [] 84 [.int .i64 0, .int .i64 0] [isV (.slice A l.length k), isV (.int .i64 (((l.length : Nat) : Int))), isV (.bool true)] (by rfl) alloc_Z ?_ ?_
  · intro qi qh qA aa wx hb hs hd
    match qi, qh, qA with
    | 0, _, _ => exact .inl ⟨rfl, op_mv rfl (hs 2 rfl)⟩
    | 1, _, _ => exact .inl ⟨rfl, op_lenvVN rfl rfl (hd 0 rfl)⟩
    | 2, _, _ => exact .inl ⟨rfl, pure_b (bool_eq (decide_eq_true (by omega))) (⟨_, op_leqI rfl (hd 1 rfl) rfl, rfl⟩)⟩
    | qi + 3, h, _ => omega
  intro vs X5 hb hv hal hne
  replace HB := Hd.mk (bel_then HB.out hb)
  replace HE := Hd.mk (HE.out.to hb)
  replace OKA := Hd.mk (OKA.out.to hb)
  have e62 : vs 62 = .bool true := hv 2 (by decide) rfl
  simp only [PA, e62]
  clear hv hal hne hb e62
  go_upto_region 8 with fail
  refine wp_region_vd 3 [63, 64, 65] [0, 2] [] 84 [.int .i64 0, .int .i64 0] [isV (.slice A l.length k), isV (.int .i64 (((l.length : Nat) : Int))), isV (.int .i64 0)] (by rfl) alloc_Z ?_ ?_
  · intro qi qh qA aa wx hb hs hd
    match qi, qh, qA with
    | 0, _, _ => exact .inl ⟨rfl, op_mv rfl (hs 2 rfl)⟩
    | 1, _, _ => exact .inl ⟨rfl, op_lenvVN rfl rfl (hd 0 rfl)⟩
    | 2, _, _ => exact .inl ⟨rfl, op_mv rfl rfl⟩
    | qi + 3, h, _ => omega
  intro vs X6 hb hv hal hne
  replace HB := Hd.mk (bel_then HB.out hb)
  replace HE := Hd.mk (HE.out.to hb)
  replace OKA := Hd.mk (OKA.out.to hb)
  have e63 : vs 63 = .slice A l.length k := hv 0 (by decide) rfl
  have e64 : vs 64 = .int .i64 (((l.length : Nat) : Int)) := hv 1 (by decide) rfl
  have e65 : vs 65 = .int .i64 0 := hv 2 (by decide) rfl
  simp only [PA, e63, e64, e65]
  clear hv hal hne hb e63 e64 e65
  go_wp2_with fail
  go_loopw [11, 65] (fun s11 s65 wr => ∃ j : Nat, j ≤ l.length ∧ s65 = .int .i64 j ∧ s11 = .bool (fitB Wn Hn (l.take j)) ∧ RdT 31 wr A18 (mvs1 Wn Hn 2) ∧ Env wr [] ∧ Below w.heap.size w wr) (fun _ s65 _ => l.length - (intOf s65).toNat)
  case atStart => exact ⟨0, Nat.zero_le _, rfl, rfl, OKA.out, HE.out, HB.out⟩
  case round =>
    obtain ⟨j, hjl, rfl, rfl, hak, he, hb⟩ := hrel
    clear HB HE OKA
    have HB := Hd.mk hb
    have OKA := Hd.mk hak
    have HE : Hd (Env wr []) := ⟨he⟩
    clear he hb hak
    by_cases hj : j < l.length
    · obtain ⟨m, hm⟩ : ∃ m, l[j]? = some m := ⟨_, List.getElem?_eq_getElem hj⟩
      obtain ⟨ad, rfl⟩ := HRM.out.some_ hm
      have HMJ := Hd.mk hm
      have HFS := Hd.mk (fit_snoc (W := Wn) (H := Hn) hm)
      clear hm
      go_upto_region 10 with fail
      refine wp_region_vd 4 [67, 68, 69, 13] [0] [3] 26 [.int .i64 0, .int .i64 0, .int .i64 0, .bool false] [isV (.int .i64 (((j : Nat) : Int))), isV (.pointer (some (ad.add (j * 4)))), isV (.agg #[.int .i64 m.x, .int .i64 m.y, .int .i64 m.t, .bool m.f]), SP.any] (by rfl) alloc_N ?_ ?_
      · intro qi qh qA aa wx hb hs hd
        match qi, qh, qA with
        | 0, _, _ => exact .inl ⟨rfl, op_mv rfl (hs 65 rfl)⟩
        | 1, _, _ => exact .inl ⟨rfl, op_run rfl (op_idxVN hj rfl (hs 63 rfl) (hs 65 rfl) _) rfl⟩
        | 2, _, _ => exact .inl ⟨rfl, op_ldvVN rfl rfl (hd 1 rfl) ((HRM.out.to (bel_then HB.out hb)).at_ HMJ.out)⟩
        | 3, _, h => cases h
        | qi + 4, h, _ => omega
      intro vs X1 hb hv hal hne
      have HL0 := Hd.mk (HE.out.lt)
      have HBW := HB
      replace HB := Hd.mk (bel_then HB.out hb)
      replace HE := Hd.mk (HE.out.to hb)
      replace OKA := Hd.mk (OKA.out.to hb)
      have e67 : vs 67 = .int .i64 (((j : Nat) : Int)) := hv 0 (by decide) rfl
      have e69 : vs 69 = .agg #[.int .i64 m.x, .int .i64 m.y, .int .i64 m.t, .bool m.f] := hv 2 (by decide) rfl
      obtain ⟨g13, e13, l13, b13⟩ : ∃ g, vs 13 = .pointer (some ⟨g, 0, none⟩) ∧ _ := hal 3 rfl
      replace HE : Hd (Env X1 [⟨g13, 26, [.int .i64 0, .int .i64 0, .int .i64 0, .bool false]⟩]) := ⟨Env.addne (e := ⟨g13, 26, [.int .i64 0, .int .i64 0, .int .i64 0, .bool false]⟩) HE.out b13 (fun e' he => Nat.ne_of_lt (Nat.lt_of_lt_of_le (HL0.out e' he) l13))⟩
      have G13 : Hd (w.heap.size ≤ g13) := ⟨Nat.le_trans HBW.out.size l13⟩
      simp only [PA, e67, e69, e13]
      clear hv hal hne hb HL0 HBW e67 e69 e13 l13 b13
      refine wpList_run rfl (op_asgE (v := .int .i64 (((j : Nat) : Int))) rfl rfl _) ?_
      simp only [Act.put, List.setIfInBounds_toArray, List.set_cons_succ, List.set_cons_zero]
      refine wpList_st rfl rfl rfl rfl rfl (sto_N (HE.out.get 0 rfl)) ?_
      have HE' : Env (putL X1 g13 0 [.int .i64 m.x, .int .i64 m.y, .int .i64 m.t, .bool m.f]) [⟨g13, 26, [.int .i64 m.x, .int .i64 m.y, .int .i64 m.t, .bool m.f]⟩] := HE.out.putF 0 rfl rfl
      have HB' := putL_below (show w.heap.size ≤ g13 from G13.out) [.int .i64 m.x, .int .i64 m.y, .int .i64 m.t, .bool m.f] _ 0 HB.out
      replace OKA := Hd.mk (OKA.out.putB (vs := [.int .i64 m.x, .int .i64 m.y, .int .i64 m.t, .bool m.f]) (o := 0) (HE.out.get 0 rfl))
      generalize putL X1 g13 0 [.int .i64 m.x, .int .i64 m.y, .int .i64 m.t, .bool m.f] = X2 at *
      replace HE := Hd.mk HE'
      replace HB := Hd.mk HB'
      clear HE' HB'
      cases hf : fitB Wn Hn (l.take j)
      · have HF := Hd.mk hf
        rw [hf] at HFS
        clear hf
        go_upto_region 11 with fail
        refine wp_region_vd 11 [70, 71, 72, 73, 74, 75, 76, 77, 78, 79, 80] [0, 1, 10] [] 84 [.int .i64 0, .int .i64 0] [isV (.bool false), isV (.bool false), isV undef, isV undef, isV undef, isV undef, isV undef, isV undef, isV undef, isV undef, isV (.bool false)] (by rfl) alloc_Z ?_ ?_
        · intro qi qh qA aa wx hb hs hd
          match qi, qh, qA with
          | 0, _, _ => exact .inl ⟨rfl, op_mv rfl (hs 11 rfl)⟩
          | 1, _, _ => exact .inl ⟨rfl, op_mv rfl (hd 0 rfl)⟩
          | 2, _, _ => exact .inr ⟨⟨rfl, .inl (hd 1 rfl)⟩, rfl⟩
          | 3, _, _ => exact .inr ⟨⟨rfl, .inl (hd 1 rfl)⟩, rfl⟩
          | 4, _, _ => exact .inr ⟨⟨rfl, .inl (hd 1 rfl)⟩, rfl⟩
          | 5, _, _ => exact .inr ⟨⟨rfl, .inr ⟨rfl, hd 4 rfl⟩⟩, rfl⟩
          | 6, _, _ => exact .inr ⟨⟨rfl, .inr ⟨rfl, hd 4 rfl⟩⟩, rfl⟩
          | 7, _, _ => exact .inr ⟨⟨rfl, .inr ⟨rfl, hd 4 rfl⟩⟩, rfl⟩
          | 8, _, _ => exact .inr ⟨⟨rfl, .inr ⟨rfl, hd 4 rfl⟩⟩, rfl⟩
          | 9, _, _ => exact .inr ⟨⟨rfl, .inl (hd 1 rfl)⟩, rfl⟩
          | 10, _, _ => exact .inl ⟨rfl, ⟨_, op_pickF rfl (hd 1 rfl) rfl, rfl⟩⟩
          | qi + 11, h, _ => omega
        intro vs X3 hb hv hal hne
        replace HB := Hd.mk (bel_then HB.out hb)
        replace HE := Hd.mk (HE.out.to hb)
        replace OKA := Hd.mk (OKA.out.to hb)
        have e80 : vs 80 = .bool false := hv 10 (by decide) rfl
        simp only [PA, e80]
        clear hv hal hne hb e80
        go_wp2_with fail
        go_roundw
        case rel => exact ⟨j + 1, by omega, by go_num, by rw [HFS.out]; rfl, OKA.out, Env.front (L := []) HE.out, HB.out⟩
        case measure => simp [intOf]; omega
      have HF := Hd.mk hf
      rw [hf] at HFS
      clear hf
      cases ha : alB Wn Hn m.x m.y m.t
      · have HA := Hd.mk ha
        rw [ha] at HFS
        clear ha
        go_upto_region 11 with fail
        refine wp_region_vd 11 [70, 71, 72, 73, 74, 75, 76, 77, 78, 79, 80] [0, 1, 2, 3, 4, 5, 6, 9, 10] [] 84 [.int .i64 0, .int .i64 0] [isV (.bool true), isV (.bool true), isV (.int .i64 (((j : Nat) : Int))), isV (.bool false), isV (.bool false), isV (.int .i64 (((Wn : Nat) : Int))), isV (.int .i64 (((Hn : Nat) : Int))), isV (.agg #[.int .i64 m.x, .int .i64 m.y, .int .i64 m.t, .bool m.f]), isV (.bool false), isV (.bool false), isV (.bool false)] (by rfl) alloc_Z ?_ ?_
        · intro qi qh qA aa wx hb hs hd
          match qi, qh, qA with
          | 0, _, _ => exact .inl ⟨rfl, op_mv rfl (hs 11 rfl)⟩
          | 1, _, _ => exact .inl ⟨rfl, op_mv rfl (hd 0 rfl)⟩
          | 2, _, _ => exact .inl ⟨⟨rfl, .inl (hd 1 rfl)⟩, op_mv rfl (hs 12 rfl)⟩
          | 3, _, _ => exact .inl ⟨⟨rfl, .inl (hd 1 rfl)⟩, pure_b (bool_eq (decide_eq_false (by omega))) (⟨_, op_gtrI rfl (hd 2 rfl) rfl, rfl⟩)⟩
          | 4, _, _ => exact .inl ⟨⟨rfl, .inl (hd 1 rfl)⟩, op_mv rfl (hd 3 rfl)⟩
          | 5, _, _ => exact .inl ⟨⟨rfl, .inl (hd 4 rfl)⟩, op_mv rfl (hs 0 rfl)⟩
          | 6, _, _ => exact .inl ⟨⟨rfl, .inl (hd 4 rfl)⟩, op_mv rfl (hs 1 rfl)⟩
          | 7, _, _ => exact .inl ⟨⟨rfl, .inl (hd 4 rfl)⟩, op_ldN rfl rfl (hs 13 rfl) ((HE.out.to hb).get 0 rfl)⟩
          | 8, _, _ => exact .inl ⟨⟨rfl, .inl (hd 4 rfl)⟩, wp_b (bool_eq HA.out) (op_call3 rfl rfl Try.call19 (by rw [(show aa.eval (.tmp 75) = .int .i64 (((Wn : Nat) : Int)) from (hd 5 rfl)), (show aa.eval (.tmp 76) = .int .i64 (((Hn : Nat) : Int)) from (hd 6 rfl)), (show aa.eval (.tmp 77) = .agg #[.int .i64 m.x, .int .i64 m.y, .int .i64 m.t, .bool m.f] from (hd 7 rfl))]; exact Fits_got Wn Hn m.x m.y m.t m.f _))⟩
          | 9, _, _ => exact .inl ⟨⟨rfl, .inl (hd 1 rfl)⟩, ⟨_, op_pickF rfl (hd 4 rfl) (hd 8 rfl), rfl⟩⟩
          | 10, _, _ => exact .inl ⟨rfl, ⟨_, op_pickT rfl (hd 1 rfl) (hd 9 rfl), rfl⟩⟩
          | qi + 11, h, _ => omega
        intro vs X3 hb hv hal hne
        replace HB := Hd.mk (bel_then HB.out hb)
        replace HE := Hd.mk (HE.out.to hb)
        replace OKA := Hd.mk (OKA.out.to hb)
        have e80 : vs 80 = .bool false := hv 10 (by decide) rfl
        simp only [PA, e80]
        clear hv hal hne hb e80
        go_wp2_with fail
        go_roundw
        case rel => exact ⟨j + 1, by omega, by go_num, by rw [HFS.out]; rfl, OKA.out, Env.front (L := []) HE.out, HB.out⟩
        case measure => simp [intOf]; omega
      have HA := Hd.mk ha
      rw [ha] at HFS
      clear ha
      go_upto_region 11 with fail
      refine wp_region_vd 11 [70, 71, 72, 73, 74, 75, 76, 77, 78, 79, 80] [0, 1, 2, 3, 4, 5, 6, 9, 10] [] 84 [.int .i64 0, .int .i64 0] [isV (.bool true), isV (.bool true), isV (.int .i64 (((j : Nat) : Int))), isV (.bool false), isV (.bool false), isV (.int .i64 (((Wn : Nat) : Int))), isV (.int .i64 (((Hn : Nat) : Int))), isV (.agg #[.int .i64 m.x, .int .i64 m.y, .int .i64 m.t, .bool m.f]), isV (.bool true), isV (.bool true), isV (.bool true)] (by rfl) alloc_Z ?_ ?_
      · intro qi qh qA aa wx hb hs hd
        match qi, qh, qA with
        | 0, _, _ => exact .inl ⟨rfl, op_mv rfl (hs 11 rfl)⟩
        | 1, _, _ => exact .inl ⟨rfl, op_mv rfl (hd 0 rfl)⟩
        | 2, _, _ => exact .inl ⟨⟨rfl, .inl (hd 1 rfl)⟩, op_mv rfl (hs 12 rfl)⟩
        | 3, _, _ => exact .inl ⟨⟨rfl, .inl (hd 1 rfl)⟩, pure_b (bool_eq (decide_eq_false (by omega))) (⟨_, op_gtrI rfl (hd 2 rfl) rfl, rfl⟩)⟩
        | 4, _, _ => exact .inl ⟨⟨rfl, .inl (hd 1 rfl)⟩, op_mv rfl (hd 3 rfl)⟩
        | 5, _, _ => exact .inl ⟨⟨rfl, .inl (hd 4 rfl)⟩, op_mv rfl (hs 0 rfl)⟩
        | 6, _, _ => exact .inl ⟨⟨rfl, .inl (hd 4 rfl)⟩, op_mv rfl (hs 1 rfl)⟩
        | 7, _, _ => exact .inl ⟨⟨rfl, .inl (hd 4 rfl)⟩, op_ldN rfl rfl (hs 13 rfl) ((HE.out.to hb).get 0 rfl)⟩
        | 8, _, _ => exact .inl ⟨⟨rfl, .inl (hd 4 rfl)⟩, wp_b (bool_eq HA.out) (op_call3 rfl rfl Try.call19 (by rw [(show aa.eval (.tmp 75) = .int .i64 (((Wn : Nat) : Int)) from (hd 5 rfl)), (show aa.eval (.tmp 76) = .int .i64 (((Hn : Nat) : Int)) from (hd 6 rfl)), (show aa.eval (.tmp 77) = .agg #[.int .i64 m.x, .int .i64 m.y, .int .i64 m.t, .bool m.f] from (hd 7 rfl))]; exact Fits_got Wn Hn m.x m.y m.t m.f _))⟩
        | 9, _, _ => exact .inl ⟨⟨rfl, .inl (hd 1 rfl)⟩, ⟨_, op_pickF rfl (hd 4 rfl) (hd 8 rfl), rfl⟩⟩
        | 10, _, _ => exact .inl ⟨rfl, ⟨_, op_pickT rfl (hd 1 rfl) (hd 9 rfl), rfl⟩⟩
        | qi + 11, h, _ => omega
      intro vs X3 hb hv hal hne
      replace HB := Hd.mk (bel_then HB.out hb)
      replace HE := Hd.mk (HE.out.to hb)
      replace OKA := Hd.mk (OKA.out.to hb)
      have e80 : vs 80 = .bool true := hv 10 (by decide) rfl
      simp only [PA, e80]
      clear hv hal hne hb e80
      go_wp2_with fail
      go_roundw
      case rel => exact ⟨j + 1, by omega, by go_num, by rw [HFS.out]; rfl, OKA.out, Env.front (L := []) HE.out, HB.out⟩
      case measure => simp [intOf]; omega
    have e1 : j = l.length := by omega
    have hfe : fitB Wn Hn (l.take j) = false := by rw [e1, List.take_length]; exact HFB.out
    clear e1
    rw [hfe]
    clear hfe
    go_upto_region 13 with fail
    refine wp_region_vd 2 [82, 83] [0, 1] [] 84 [.int .i64 0, .int .i64 0] [isV (.bool false), isV (.bool true)] (by rfl) alloc_Z ?_ ?_
    · intro qi qh qA aa wx hb hs hd
      match qi, qh, qA with
      | 0, _, _ => exact .inl ⟨rfl, op_mv rfl (hs 11 rfl)⟩
      | 1, _, _ => exact .inl ⟨rfl, ⟨_, op_not rfl (hd 0 rfl), rfl⟩⟩
      | qi + 2, h, _ => omega
    intro vs X1 hb hv hal hne
    replace HB := Hd.mk (bel_then HB.out hb)
    replace HE := Hd.mk (HE.out.to hb)
    replace OKA := Hd.mk (OKA.out.to hb)
    have e83 : vs 83 = .bool true := hv 1 (by decide) rfl
    simp only [PA, e83]
    clear hv hal hne hb e83
    go_upto_region 14 with fail
    refine wp_region_vd 10 [84, 85, 86, 87, 88, 89, 90, 91, 92, 93] [0, 2, 3, 4, 5, 6, 7, 9] [] 84 [.int .i64 0, .int .i64 0] [isV (.slice none 0 0), isV (.int .i64 (((0 : Nat) : Int))), isV (.bool true), isV (.bool true), isV (.int .i64 2), isV (.bool true), isV (.bool true), isV (.bool true), isV (.bool true), isV (.bool true)] (by rfl) alloc_Z ?_ ?_
    · intro qi qh qA aa wx hb hs hd
      match qi, qh, qA with
      | 0, _, _ => exact .inl ⟨rfl, op_mv rfl (hs 9 rfl)⟩
      | 1, _, _ => exact .inl ⟨rfl, op_lenvVM rfl rfl (hd 0 rfl)⟩
      | 2, _, _ => exact .inl ⟨rfl, pure_b (bool_eq (by decide)) (⟨_, op_eqlI rfl (hd 1 rfl) rfl, rfl⟩)⟩
      | 3, _, _ => exact .inl ⟨rfl, op_mv rfl (hd 2 rfl)⟩
      | 4, _, _ => exact .inl ⟨⟨rfl, .inl (hd 3 rfl)⟩, op_mv rfl (hs 10 rfl)⟩
      | 5, _, _ => exact .inl ⟨⟨rfl, .inl (hd 3 rfl)⟩, pure_b (bool_eq (by decide)) (⟨_, op_eqlE rfl (hd 4 rfl) rfl, rfl⟩)⟩
      | 6, _, _ => exact .inl ⟨rfl, ⟨_, op_pickT rfl (hd 3 rfl) (hd 5 rfl), rfl⟩⟩
      | 7, _, _ => exact .inl ⟨rfl, op_mv rfl (hd 6 rfl)⟩
      | 8, _, _ => exact .inl ⟨⟨rfl, .inl (hd 7 rfl)⟩, op_call0 rfl rfl Try.call18 (awake_got _)⟩
      | 9, _, _ => exact .inl ⟨rfl, ⟨_, op_pickT rfl (hd 7 rfl) (hd 8 rfl), rfl⟩⟩
      | qi + 10, h, _ => omega
    intro vs X2 hb hv hal hne
    replace HB := Hd.mk (bel_then HB.out hb)
    replace HE := Hd.mk (HE.out.to hb)
    replace OKA := Hd.mk (OKA.out.to hb)
    have e93 : vs 93 = .bool true := hv 9 (by decide) rfl
    simp only [PA, e93]
    clear hv hal hne hb e93
    go_wp2_with fail
    go_ret
    exact ⟨_, rfl, HB.out, rfl⟩
set_option maxRecDepth 100000 in
set_option maxHeartbeats 1000000 in
theorem SMov_ok (Wn Hn : Nat) (A : Option Addr) (k : Nat) (l : List Mv) (w : World) (hrm : RdM w A l) (hln : l.length ≤ 9223372036854775807) (hs : sizeB Wn Hn = true) (h16 : l.length ≤ 16) (hfb : fitB Wn Hn l = true) :
    Calls Try.prog 9 #[.int .i64 (((Wn : Nat) : Int)), .int .i64 (((Hn : Nat) : Int)), .slice A l.length k] w (Got w (isV (.bool true)).p) := by
  have hwh := sizeB_bounds hs
  have hLN : (mvs1 Wn Hn 2).length ≤ 512 := len1 Wn Hn (by omega) (by omega) 2
  have HRM := Hd.mk hrm
  have HS := Hd.mk hs
  have HFB := Hd.mk hfb
  have HTK := Hd.mk (List.take_of_length_le (show l.length ≤ 521 by omega))
  have HAL := Hd.mk (fit_all hs hfb)
  have HKS : Hd ((closeL Wn Hn l).length ≤ 100000) := ⟨Nat.le_trans (List.length_filter_le _ _) (by omega)⟩
  clear hrm hs hfb
  go_enter Try.func9, Try.ntmps9
  go_upto_region 1 with fail
  have HE : Hd (Env w []) := ⟨trivial⟩
  have HB : Hd (Below w.heap.size w w) := ⟨Below.refl _ _⟩
  refine wp_region_vd 6 [15, 16, 17, 14, 18, 19] [0, 1, 3, 4, 5] [] 84 [.int .i64 0, .int .i64 0] [isV (.int .i64 (((Wn : Nat) : Int))), isV (.int .i64 (((Hn : Nat) : Int))), isP (isRd 31 ((mvs1 Wn Hn 2))) (isV (.int .i64 0)), isP (isRd 31 ((mvs1 Wn Hn 2))) (isV (.int .i64 0)), isRd 31 ((mvs1 Wn Hn 2)), isV (.int .i64 0)] (by rfl) alloc_Z ?_ ?_
  · intro qi qh qA aa wx hb hs hd
    match qi, qh, qA with
    | 0, _, _ => exact .inl ⟨rfl, op_mv rfl (hs 0 rfl)⟩
    | 1, _, _ => exact .inl ⟨rfl, op_mv rfl (hs 1 rfl)⟩
    | 2, _, _ => exact .inl ⟨rfl, op_call2 rfl rfl Try.call37 (by rw [show aa.eval (.tmp 15) = _ from hd 0 rfl, show aa.eval (.tmp 16) = _ from hd 1 rfl]; exact got_rdT (Moves_ok Wn Hn _ HS.out))⟩
    | 3, _, _ => exact .inl ⟨rfl, op_mv rfl (hd 2 rfl)⟩
    | 4, _, _ => exact .inl ⟨rfl, op_fst rfl (hd 3 rfl)⟩
    | 5, _, _ => exact .inl ⟨rfl, op_snd rfl (hd 3 rfl)⟩
    | qi + 6, h, _ => omega
  intro vs X1 hb hv hal hne
  replace HB := Hd.mk (bel_then HB.out hb)
  replace HE := Hd.mk (HE.out.to hb)
  obtain ⟨A18, k18, e18, r18⟩ : (isRd 31 ((mvs1 Wn Hn 2))).p (vs 18) X1 := hv 4 (by decide) rfl
  have HRA := Hd.mk r18.rd
  have OKA := Hd.mk r18
  clear r18
  have e19 : vs 19 = .int .i64 0 := hv 5 (by decide) rfl
  simp only [PA, e18, e19]
  clear hv hal hne hb e18 e19
  go_upto_region 2 with fail
  refine wp_region_vd 8 [21, 22, 23, 24, 25, 20, 26, 27] [0, 1, 2, 5, 6, 7] [] 84 [.int .i64 0, .int .i64 0] [isV (.int .i64 (((Wn : Nat) : Int))), isV (.int .i64 (((Hn : Nat) : Int))), isV (.slice A l.length k), isSs w.heap.size (l.take 521), isP (isRd 31 ((closeL Wn Hn l))) (isV (.int .i64 0)), isP (isRd 31 ((closeL Wn Hn l))) (isV (.int .i64 0)), isRd 31 ((closeL Wn Hn l)), isV (.int .i64 0)] (by rfl) alloc_Z ?_ ?_
  · intro qi qh qA aa wx hb hs hd
    match qi, qh, qA with
    | 0, _, _ => exact .inl ⟨rfl, op_mv rfl (hs 0 rfl)⟩
    | 1, _, _ => exact .inl ⟨rfl, op_mv rfl (hs 1 rfl)⟩
    | 2, _, _ => exact .inl ⟨rfl, op_mv rfl (hs 2 rfl)⟩
    | 3, _, _ => exact .inl ⟨rfl, op_call1 rfl rfl Try.call30 (by rw [show aa.eval (.tmp 23) = _ from hd 2 rfl]; exact got_ss (Nat.le_trans HB.out.size hb.size) (moves_got A k l _ (HRM.out.to (bel_then HB.out hb)) hln))⟩
    | 4, _, _ => exact .inl ⟨rfl, op_call3 rfl rfl Try.call38 (by obtain ⟨A', k', e, r, _⟩ := row_reads (hd 3 rfl); rw [show aa.eval (.tmp 21) = _ from hd 0 rfl, show aa.eval (.tmp 22) = _ from hd 1 rfl, show aa.eval (.tmp 24) = _ from e]; exact by rw [HTK.out] at r ⊢; exact Close_ok Wn Hn A' k' l _ r (by omega) HS.out (by omega) HAL.out)⟩
    | 5, _, _ => exact .inl ⟨rfl, op_mv rfl (hd 4 rfl)⟩
    | 6, _, _ => exact .inl ⟨rfl, op_fst rfl (hd 5 rfl)⟩
    | 7, _, _ => exact .inl ⟨rfl, op_snd rfl (hd 5 rfl)⟩
    | qi + 8, h, _ => omega
  intro vs X2 hb hv hal hne
  replace HB := Hd.mk (bel_then HB.out hb)
  replace HE := Hd.mk (HE.out.to hb)
  replace OKA := Hd.mk (OKA.out.to hb)
  obtain ⟨A26, k26, e26, r26⟩ : (isRd 31 ((closeL Wn Hn l))).p (vs 26) X2 := hv 6 (by decide) rfl
  have HRC := Hd.mk r26.rd
  have OKC := Hd.mk r26
  clear r26
  have e27 : vs 27 = .int .i64 0 := hv 7 (by decide) rfl
  simp only [PA, e26, e27]
  clear hv hal hne hb e26 e27
  go_upto_region 3 with fail
  refine wp_region_vd 4 [28, 29, 30, 31] [0, 1, 3] [] 84 [.int .i64 0, .int .i64 0] [isV (.int .i64 (((Wn : Nat) : Int))), isV (.int .i64 (((Hn : Nat) : Int))), isV (.bool true), isV (.bool false)] (by rfl) alloc_Z ?_ ?_
  · intro qi qh qA aa wx hb hs hd
    match qi, qh, qA with
    | 0, _, _ => exact .inl ⟨rfl, op_mv rfl (hs 0 rfl)⟩
    | 1, _, _ => exact .inl ⟨rfl, op_mv rfl (hs 1 rfl)⟩
    | 2, _, _ => exact .inl ⟨rfl, wp_b (bool_eq HS.out) (op_call2 rfl rfl Try.call25 (by rw [(show aa.eval (.tmp 28) = .int .i64 (((Wn : Nat) : Int)) from (hd 0 rfl)), (show aa.eval (.tmp 29) = .int .i64 (((Hn : Nat) : Int)) from (hd 1 rfl))]; exact rSize_got Wn Hn _))⟩
    | 3, _, _ => exact .inl ⟨rfl, ⟨_, op_not rfl (hd 2 rfl), rfl⟩⟩
    | qi + 4, h, _ => omega
  intro vs X3 hb hv hal hne
  replace HB := Hd.mk (bel_then HB.out hb)
  replace HE := Hd.mk (HE.out.to hb)
  replace OKA := Hd.mk (OKA.out.to hb)
  replace OKC := Hd.mk (OKC.out.to hb)
  have e31 : vs 31 = .bool false := hv 3 (by decide) rfl
  simp only [PA, e31]
  clear hv hal hne hb e31
  go_upto_region 5 with fail
  refine wp_region_vd 11 [49, 50, 51, 52, 53, 54, 55, 56, 57, 58, 59] [0, 2, 3, 6, 7, 8, 9, 10] [] 84 [.int .i64 0, .int .i64 0] [isV (.slice A18 (((mvs1 Wn Hn 2)).length) k18), isMs w.heap.size (mvs1 Wn Hn 2), isV (.int .i64 (((Wn : Nat) : Int))), isV (.int .i64 (((Hn : Nat) : Int))), isMs w.heap.size (mvs1 Wn Hn 2), isV (.bool true), isV (.bool false), isV (.bool false), isV (.int .i64 0), isV (.bool false), isV (.bool false)] (by rfl) alloc_Z ?_ ?_
  · intro qi qh qA aa wx hb hs hd
    match qi, qh, qA with
    | 0, _, _ => exact .inl ⟨rfl, op_mv rfl (hs 7 rfl)⟩
    | 1, _, _ => exact .inl ⟨rfl, op_call1 rfl rfl Try.call40 (by rw [show aa.eval (.tmp 49) = _ from hd 0 rfl]; exact got_ms (Nat.le_trans HB.out.size hb.size) (ownMoves_got A18 k18 (mvs1 Wn Hn 2) _ (OKA.out.to hb).rd (by omega)))⟩
    | 2, _, _ => exact .inl ⟨rfl, op_mv rfl (hs 0 rfl)⟩
    | 3, _, _ => exact .inl ⟨rfl, op_mv rfl (hs 1 rfl)⟩
    | 4, _, _ => exact .inl ⟨rfl, op_call2 rfl rfl Try.call41 (by rw [show aa.eval (.tmp 51) = _ from hd 2 rfl, show aa.eval (.tmp 52) = _ from hd 3 rfl]; exact got_ms (Nat.le_trans HB.out.size hb.size) (rMoves_got Wn Hn (by omega) (by omega) _))⟩
    | 5, _, _ => exact .inl ⟨rfl, op_call2 rfl rfl Try.call39 (by obtain ⟨A1, k1, e1, r1⟩ := ms_reads (hd 1 rfl); obtain ⟨A2, k2, e2, r2⟩ := ms_reads (hd 4 rfl); rw [show aa.eval (.tmp 50) = _ from e1, show aa.eval (.tmp 53) = _ from e2]; exact equalM_same A1 k1 A2 k2 _ _ r1 r2 (by omega))⟩
    | 6, _, _ => exact .inl ⟨rfl, ⟨_, op_not rfl (hd 5 rfl), rfl⟩⟩
    | 7, _, _ => exact .inl ⟨rfl, op_mv rfl (hd 6 rfl)⟩
    | 8, _, _ => exact .inl ⟨⟨rfl, .inl (hd 7 rfl)⟩, op_mv rfl (hs 8 rfl)⟩
    | 9, _, _ => exact .inl ⟨⟨rfl, .inl (hd 7 rfl)⟩, pure_b (bool_eq (by decide)) (⟨_, op_neqE rfl (hd 8 rfl) rfl, rfl⟩)⟩
    | 10, _, _ => exact .inl ⟨rfl, ⟨_, op_pickF rfl (hd 7 rfl) (hd 9 rfl), rfl⟩⟩
    | qi + 11, h, _ => omega
  intro vs X4 hb hv hal hne
  replace HB := Hd.mk (bel_then HB.out hb)
  replace HE := Hd.mk (HE.out.to hb)
  replace OKA := Hd.mk (OKA.out.to hb)
  replace OKC := Hd.mk (OKC.out.to hb)
  have e59 : vs 59 = .bool false := hv 10 (by decide) rfl
  simp only [PA, e59]
  clear hv hal hne hb e59
  go_upto_region 7 with fail
  refine wp_region_vd 3 [60, 61, 62] [0, 2] [] 84 [.int .i64 0, .int .i64 0] [isV (.slice A l.length k), isV (.int .i64 (((l.length : Nat) : Int))), isV (.bool true)] (by rfl) alloc_Z ?_ ?_
  · intro qi qh qA aa wx hb hs hd
    match qi, qh, qA with
    | 0, _, _ => exact .inl ⟨rfl, op_mv rfl (hs 2 rfl)⟩
    | 1, _, _ => exact .inl ⟨rfl, op_lenvVN rfl rfl (hd 0 rfl)⟩
    | 2, _, _ => exact .inl ⟨rfl, pure_b (bool_eq (decide_eq_true (by omega))) (⟨_, op_leqI rfl (hd 1 rfl) rfl, rfl⟩)⟩
    | qi + 3, h, _ => omega
  intro vs X5 hb hv hal hne
  replace HB := Hd.mk (bel_then HB.out hb)
  replace HE := Hd.mk (HE.out.to hb)
  replace OKA := Hd.mk (OKA.out.to hb)
  replace OKC := Hd.mk (OKC.out.to hb)
  have e62 : vs 62 = .bool true := hv 2 (by decide) rfl
  simp only [PA, e62]
  clear hv hal hne hb e62
  go_upto_region 8 with fail
  refine wp_region_vd 3 [63, 64, 65] [0, 2] [] 84 [.int .i64 0, .int .i64 0] [isV (.slice A l.length k), isV (.int .i64 (((l.length : Nat) : Int))), isV (.int .i64 0)] (by rfl) alloc_Z ?_ ?_
  · intro qi qh qA aa wx hb hs hd
    match qi, qh, qA with
    | 0, _, _ => exact .inl ⟨rfl, op_mv rfl (hs 2 rfl)⟩
    | 1, _, _ => exact .inl ⟨rfl, op_lenvVN rfl rfl (hd 0 rfl)⟩
    | 2, _, _ => exact .inl ⟨rfl, op_mv rfl rfl⟩
    | qi + 3, h, _ => omega
  intro vs X6 hb hv hal hne
  replace HB := Hd.mk (bel_then HB.out hb)
  replace HE := Hd.mk (HE.out.to hb)
  replace OKA := Hd.mk (OKA.out.to hb)
  replace OKC := Hd.mk (OKC.out.to hb)
  have e63 : vs 63 = .slice A l.length k := hv 0 (by decide) rfl
  have e64 : vs 64 = .int .i64 (((l.length : Nat) : Int)) := hv 1 (by decide) rfl
  have e65 : vs 65 = .int .i64 0 := hv 2 (by decide) rfl
  simp only [PA, e63, e64, e65]
  clear hv hal hne hb e63 e64 e65
  go_wp2_with fail
  go_loopw [11, 65] (fun s11 s65 wr => ∃ j : Nat, j ≤ l.length ∧ s65 = .int .i64 j ∧ s11 = .bool (fitB Wn Hn (l.take j)) ∧ RdT 31 wr A18 (mvs1 Wn Hn 2) ∧ RdT 31 wr A26 (closeL Wn Hn l) ∧ Env wr [] ∧ Below w.heap.size w wr) (fun _ s65 _ => l.length - (intOf s65).toNat)
  case atStart => exact ⟨0, Nat.zero_le _, rfl, rfl, OKA.out, OKC.out, HE.out, HB.out⟩
  case round =>
    obtain ⟨j, hjl, rfl, rfl, hak, hck, he, hb⟩ := hrel
    clear HB HE OKA OKC
    have HB := Hd.mk hb
    have OKA := Hd.mk hak
    have OKC := Hd.mk hck
    have HE : Hd (Env wr []) := ⟨he⟩
    clear he hb hak hck
    by_cases hj : j < l.length
    · obtain ⟨m, hm⟩ : ∃ m, l[j]? = some m := ⟨_, List.getElem?_eq_getElem hj⟩
      obtain ⟨ad, rfl⟩ := HRM.out.some_ hm
      have HMJ := Hd.mk hm
      have HFS := Hd.mk (fit_snoc (W := Wn) (H := Hn) hm)
      clear hm
      go_upto_region 10 with fail
      refine wp_region_vd 4 [67, 68, 69, 13] [0] [3] 26 [.int .i64 0, .int .i64 0, .int .i64 0, .bool false] [isV (.int .i64 (((j : Nat) : Int))), isV (.pointer (some (ad.add (j * 4)))), isV (.agg #[.int .i64 m.x, .int .i64 m.y, .int .i64 m.t, .bool m.f]), SP.any] (by rfl) alloc_N ?_ ?_
      · intro qi qh qA aa wx hb hs hd
        match qi, qh, qA with
        | 0, _, _ => exact .inl ⟨rfl, op_mv rfl (hs 65 rfl)⟩
        | 1, _, _ => exact .inl ⟨rfl, op_run rfl (op_idxVN hj rfl (hs 63 rfl) (hs 65 rfl) _) rfl⟩
        | 2, _, _ => exact .inl ⟨rfl, op_ldvVN rfl rfl (hd 1 rfl) ((HRM.out.to (bel_then HB.out hb)).at_ HMJ.out)⟩
        | 3, _, h => cases h
        | qi + 4, h, _ => omega
      intro vs X1 hb hv hal hne
      have HL0 := Hd.mk (HE.out.lt)
      have HBW := HB
      replace HB := Hd.mk (bel_then HB.out hb)
      replace HE := Hd.mk (HE.out.to hb)
      replace OKA := Hd.mk (OKA.out.to hb)
      replace OKC := Hd.mk (OKC.out.to hb)
      have e67 : vs 67 = .int .i64 (((j : Nat) : Int)) := hv 0 (by decide) rfl
      have e69 : vs 69 = .agg #[.int .i64 m.x, .int .i64 m.y, .int .i64 m.t, .bool m.f] := hv 2 (by decide) rfl
      obtain ⟨g13, e13, l13, b13⟩ : ∃ g, vs 13 = .pointer (some ⟨g, 0, none⟩) ∧ _ := hal 3 rfl
      replace HE : Hd (Env X1 [⟨g13, 26, [.int .i64 0, .int .i64 0, .int .i64 0, .bool false]⟩]) := ⟨Env.addne (e := ⟨g13, 26, [.int .i64 0, .int .i64 0, .int .i64 0, .bool false]⟩) HE.out b13 (fun e' he => Nat.ne_of_lt (Nat.lt_of_lt_of_le (HL0.out e' he) l13))⟩
      have G13 : Hd (w.heap.size ≤ g13) := ⟨Nat.le_trans HBW.out.size l13⟩
      simp only [PA, e67, e69, e13]
      clear hv hal hne hb HL0 HBW e67 e69 e13 l13 b13
      refine wpList_run rfl (op_asgE (v := .int .i64 (((j : Nat) : Int))) rfl rfl _) ?_
      simp only [Act.put, List.setIfInBounds_toArray, List.set_cons_succ, List.set_cons_zero]
      refine wpList_st rfl rfl rfl rfl rfl (sto_N (HE.out.get 0 rfl)) ?_
      have HE' : Env (putL X1 g13 0 [.int .i64 m.x, .int .i64 m.y, .int .i64 m.t, .bool m.f]) [⟨g13, 26, [.int .i64 m.x, .int .i64 m.y, .int .i64 m.t, .bool m.f]⟩] := HE.out.putF 0 rfl rfl
      have HB' := putL_below (show w.heap.size ≤ g13 from G13.out) [.int .i64 m.x, .int .i64 m.y, .int .i64 m.t, .bool m.f] _ 0 HB.out
      replace OKA := Hd.mk (OKA.out.putB (vs := [.int .i64 m.x, .int .i64 m.y, .int .i64 m.t, .bool m.f]) (o := 0) (HE.out.get 0 rfl))
      replace OKC := Hd.mk (OKC.out.putB (vs := [.int .i64 m.x, .int .i64 m.y, .int .i64 m.t, .bool m.f]) (o := 0) (HE.out.get 0 rfl))
      generalize putL X1 g13 0 [.int .i64 m.x, .int .i64 m.y, .int .i64 m.t, .bool m.f] = X2 at *
      replace HE := Hd.mk HE'
      replace HB := Hd.mk HB'
      clear HE' HB'
      cases hf : fitB Wn Hn (l.take j)
      · have HF := Hd.mk hf
        rw [hf] at HFS
        clear hf
        go_upto_region 11 with fail
        refine wp_region_vd 11 [70, 71, 72, 73, 74, 75, 76, 77, 78, 79, 80] [0, 1, 10] [] 84 [.int .i64 0, .int .i64 0] [isV (.bool false), isV (.bool false), isV undef, isV undef, isV undef, isV undef, isV undef, isV undef, isV undef, isV undef, isV (.bool false)] (by rfl) alloc_Z ?_ ?_
        · intro qi qh qA aa wx hb hs hd
          match qi, qh, qA with
          | 0, _, _ => exact .inl ⟨rfl, op_mv rfl (hs 11 rfl)⟩
          | 1, _, _ => exact .inl ⟨rfl, op_mv rfl (hd 0 rfl)⟩
          | 2, _, _ => exact .inr ⟨⟨rfl, .inl (hd 1 rfl)⟩, rfl⟩
          | 3, _, _ => exact .inr ⟨⟨rfl, .inl (hd 1 rfl)⟩, rfl⟩
          | 4, _, _ => exact .inr ⟨⟨rfl, .inl (hd 1 rfl)⟩, rfl⟩
          | 5, _, _ => exact .inr ⟨⟨rfl, .inr ⟨rfl, hd 4 rfl⟩⟩, rfl⟩
          | 6, _, _ => exact .inr ⟨⟨rfl, .inr ⟨rfl, hd 4 rfl⟩⟩, rfl⟩
          | 7, _, _ => exact .inr ⟨⟨rfl, .inr ⟨rfl, hd 4 rfl⟩⟩, rfl⟩
          | 8, _, _ => exact .inr ⟨⟨rfl, .inr ⟨rfl, hd 4 rfl⟩⟩, rfl⟩
          | 9, _, _ => exact .inr ⟨⟨rfl, .inl (hd 1 rfl)⟩, rfl⟩
          | 10, _, _ => exact .inl ⟨rfl, ⟨_, op_pickF rfl (hd 1 rfl) rfl, rfl⟩⟩
          | qi + 11, h, _ => omega
        intro vs X3 hb hv hal hne
        replace HB := Hd.mk (bel_then HB.out hb)
        replace HE := Hd.mk (HE.out.to hb)
        replace OKA := Hd.mk (OKA.out.to hb)
        replace OKC := Hd.mk (OKC.out.to hb)
        have e80 : vs 80 = .bool false := hv 10 (by decide) rfl
        simp only [PA, e80]
        clear hv hal hne hb e80
        go_wp2_with fail
        go_roundw
        case rel => exact ⟨j + 1, by omega, by go_num, by rw [HFS.out]; rfl, OKA.out, OKC.out, Env.front (L := []) HE.out, HB.out⟩
        case measure => simp [intOf]; omega
      have HF := Hd.mk hf
      rw [hf] at HFS
      clear hf
      cases ha : alB Wn Hn m.x m.y m.t
      · have HA := Hd.mk ha
        rw [ha] at HFS
        clear ha
        go_upto_region 11 with fail
        refine wp_region_vd 11 [70, 71, 72, 73, 74, 75, 76, 77, 78, 79, 80] [0, 1, 2, 3, 4, 5, 6, 9, 10] [] 84 [.int .i64 0, .int .i64 0] [isV (.bool true), isV (.bool true), isV (.int .i64 (((j : Nat) : Int))), isV (.bool false), isV (.bool false), isV (.int .i64 (((Wn : Nat) : Int))), isV (.int .i64 (((Hn : Nat) : Int))), isV (.agg #[.int .i64 m.x, .int .i64 m.y, .int .i64 m.t, .bool m.f]), isV (.bool false), isV (.bool false), isV (.bool false)] (by rfl) alloc_Z ?_ ?_
        · intro qi qh qA aa wx hb hs hd
          match qi, qh, qA with
          | 0, _, _ => exact .inl ⟨rfl, op_mv rfl (hs 11 rfl)⟩
          | 1, _, _ => exact .inl ⟨rfl, op_mv rfl (hd 0 rfl)⟩
          | 2, _, _ => exact .inl ⟨⟨rfl, .inl (hd 1 rfl)⟩, op_mv rfl (hs 12 rfl)⟩
          | 3, _, _ => exact .inl ⟨⟨rfl, .inl (hd 1 rfl)⟩, pure_b (bool_eq (decide_eq_false (by omega))) (⟨_, op_gtrI rfl (hd 2 rfl) rfl, rfl⟩)⟩
          | 4, _, _ => exact .inl ⟨⟨rfl, .inl (hd 1 rfl)⟩, op_mv rfl (hd 3 rfl)⟩
          | 5, _, _ => exact .inl ⟨⟨rfl, .inl (hd 4 rfl)⟩, op_mv rfl (hs 0 rfl)⟩
          | 6, _, _ => exact .inl ⟨⟨rfl, .inl (hd 4 rfl)⟩, op_mv rfl (hs 1 rfl)⟩
          | 7, _, _ => exact .inl ⟨⟨rfl, .inl (hd 4 rfl)⟩, op_ldN rfl rfl (hs 13 rfl) ((HE.out.to hb).get 0 rfl)⟩
          | 8, _, _ => exact .inl ⟨⟨rfl, .inl (hd 4 rfl)⟩, wp_b (bool_eq HA.out) (op_call3 rfl rfl Try.call19 (by rw [(show aa.eval (.tmp 75) = .int .i64 (((Wn : Nat) : Int)) from (hd 5 rfl)), (show aa.eval (.tmp 76) = .int .i64 (((Hn : Nat) : Int)) from (hd 6 rfl)), (show aa.eval (.tmp 77) = .agg #[.int .i64 m.x, .int .i64 m.y, .int .i64 m.t, .bool m.f] from (hd 7 rfl))]; exact Fits_got Wn Hn m.x m.y m.t m.f _))⟩
          | 9, _, _ => exact .inl ⟨⟨rfl, .inl (hd 1 rfl)⟩, ⟨_, op_pickF rfl (hd 4 rfl) (hd 8 rfl), rfl⟩⟩
          | 10, _, _ => exact .inl ⟨rfl, ⟨_, op_pickT rfl (hd 1 rfl) (hd 9 rfl), rfl⟩⟩
          | qi + 11, h, _ => omega
        intro vs X3 hb hv hal hne
        replace HB := Hd.mk (bel_then HB.out hb)
        replace HE := Hd.mk (HE.out.to hb)
        replace OKA := Hd.mk (OKA.out.to hb)
        replace OKC := Hd.mk (OKC.out.to hb)
        have e80 : vs 80 = .bool false := hv 10 (by decide) rfl
        simp only [PA, e80]
        clear hv hal hne hb e80
        go_wp2_with fail
        go_roundw
        case rel => exact ⟨j + 1, by omega, by go_num, by rw [HFS.out]; rfl, OKA.out, OKC.out, Env.front (L := []) HE.out, HB.out⟩
        case measure => simp [intOf]; omega
      have HA := Hd.mk ha
      rw [ha] at HFS
      clear ha
      go_upto_region 11 with fail
      refine wp_region_vd 11 [70, 71, 72, 73, 74, 75, 76, 77, 78, 79, 80] [0, 1, 2, 3, 4, 5, 6, 9, 10] [] 84 [.int .i64 0, .int .i64 0] [isV (.bool true), isV (.bool true), isV (.int .i64 (((j : Nat) : Int))), isV (.bool false), isV (.bool false), isV (.int .i64 (((Wn : Nat) : Int))), isV (.int .i64 (((Hn : Nat) : Int))), isV (.agg #[.int .i64 m.x, .int .i64 m.y, .int .i64 m.t, .bool m.f]), isV (.bool true), isV (.bool true), isV (.bool true)] (by rfl) alloc_Z ?_ ?_
      · intro qi qh qA aa wx hb hs hd
        match qi, qh, qA with
        | 0, _, _ => exact .inl ⟨rfl, op_mv rfl (hs 11 rfl)⟩
        | 1, _, _ => exact .inl ⟨rfl, op_mv rfl (hd 0 rfl)⟩
        | 2, _, _ => exact .inl ⟨⟨rfl, .inl (hd 1 rfl)⟩, op_mv rfl (hs 12 rfl)⟩
        | 3, _, _ => exact .inl ⟨⟨rfl, .inl (hd 1 rfl)⟩, pure_b (bool_eq (decide_eq_false (by omega))) (⟨_, op_gtrI rfl (hd 2 rfl) rfl, rfl⟩)⟩
        | 4, _, _ => exact .inl ⟨⟨rfl, .inl (hd 1 rfl)⟩, op_mv rfl (hd 3 rfl)⟩
        | 5, _, _ => exact .inl ⟨⟨rfl, .inl (hd 4 rfl)⟩, op_mv rfl (hs 0 rfl)⟩
        | 6, _, _ => exact .inl ⟨⟨rfl, .inl (hd 4 rfl)⟩, op_mv rfl (hs 1 rfl)⟩
        | 7, _, _ => exact .inl ⟨⟨rfl, .inl (hd 4 rfl)⟩, op_ldN rfl rfl (hs 13 rfl) ((HE.out.to hb).get 0 rfl)⟩
        | 8, _, _ => exact .inl ⟨⟨rfl, .inl (hd 4 rfl)⟩, wp_b (bool_eq HA.out) (op_call3 rfl rfl Try.call19 (by rw [(show aa.eval (.tmp 75) = .int .i64 (((Wn : Nat) : Int)) from (hd 5 rfl)), (show aa.eval (.tmp 76) = .int .i64 (((Hn : Nat) : Int)) from (hd 6 rfl)), (show aa.eval (.tmp 77) = .agg #[.int .i64 m.x, .int .i64 m.y, .int .i64 m.t, .bool m.f] from (hd 7 rfl))]; exact Fits_got Wn Hn m.x m.y m.t m.f _))⟩
        | 9, _, _ => exact .inl ⟨⟨rfl, .inl (hd 1 rfl)⟩, ⟨_, op_pickF rfl (hd 4 rfl) (hd 8 rfl), rfl⟩⟩
        | 10, _, _ => exact .inl ⟨rfl, ⟨_, op_pickT rfl (hd 1 rfl) (hd 9 rfl), rfl⟩⟩
        | qi + 11, h, _ => omega
      intro vs X3 hb hv hal hne
      replace HB := Hd.mk (bel_then HB.out hb)
      replace HE := Hd.mk (HE.out.to hb)
      replace OKA := Hd.mk (OKA.out.to hb)
      replace OKC := Hd.mk (OKC.out.to hb)
      have e80 : vs 80 = .bool true := hv 10 (by decide) rfl
      simp only [PA, e80]
      clear hv hal hne hb e80
      go_wp2_with fail
      go_roundw
      case rel => exact ⟨j + 1, by omega, by go_num, by rw [HFS.out]; rfl, OKA.out, OKC.out, Env.front (L := []) HE.out, HB.out⟩
      case measure => simp [intOf]; omega
    have e1 : j = l.length := by omega
    have hfe : fitB Wn Hn (l.take j) = true := by rw [e1, List.take_length]; exact HFB.out
    clear e1
    rw [hfe]
    clear hfe
    go_upto_region 13 with fail
    refine wp_region_vd 2 [82, 83] [0, 1] [] 84 [.int .i64 0, .int .i64 0] [isV (.bool true), isV (.bool false)] (by rfl) alloc_Z ?_ ?_
    · intro qi qh qA aa wx hb hs hd
      match qi, qh, qA with
      | 0, _, _ => exact .inl ⟨rfl, op_mv rfl (hs 11 rfl)⟩
      | 1, _, _ => exact .inl ⟨rfl, ⟨_, op_not rfl (hd 0 rfl), rfl⟩⟩
      | qi + 2, h, _ => omega
    intro vs X1 hb hv hal hne
    replace HB := Hd.mk (bel_then HB.out hb)
    replace HE := Hd.mk (HE.out.to hb)
    replace OKA := Hd.mk (OKA.out.to hb)
    replace OKC := Hd.mk (OKC.out.to hb)
    have e83 : vs 83 = .bool false := hv 1 (by decide) rfl
    simp only [PA, e83]
    clear hv hal hne hb e83
    go_upto_region 15 with fail
    refine wp_region_vd 14 [94, 95, 96, 97, 98, 99, 100, 101, 102, 103, 104, 105, 106, 107] [0, 2, 3, 4, 7, 8, 9, 10, 11, 13] [] 84 [.int .i64 0, .int .i64 0] [isV (.slice A26 (((closeL Wn Hn l)).length) k26), isMs w.heap.size (closeL Wn Hn l), isV (.int .i64 (((Wn : Nat) : Int))), isV (.int .i64 (((Hn : Nat) : Int))), isV (.slice A l.length k), isMs w.heap.size (closeL Wn Hn l), isV (.bool true), isV (.bool true), isV (.int .i64 0), isV (.bool true), isV (.bool true), isV (.bool true), isV (.bool true), isV (.bool true)] (by rfl) alloc_Z ?_ ?_
    · intro qi qh qA aa wx hb hs hd
      match qi, qh, qA with
      | 0, _, _ => exact .inl ⟨rfl, op_mv rfl (hs 9 rfl)⟩
      | 1, _, _ => exact .inl ⟨rfl, op_call1 rfl rfl Try.call40 (by rw [show aa.eval (.tmp 94) = _ from hd 0 rfl]; exact got_ms (Nat.le_trans HB.out.size hb.size) (ownMoves_got A26 k26 (closeL Wn Hn l) _ (OKC.out.to hb).rd HKS.out))⟩
      | 2, _, _ => exact .inl ⟨rfl, op_mv rfl (hs 0 rfl)⟩
      | 3, _, _ => exact .inl ⟨rfl, op_mv rfl (hs 1 rfl)⟩
      | 4, _, _ => exact .inl ⟨rfl, op_mv rfl (hs 2 rfl)⟩
      | 5, _, _ => exact .inl ⟨rfl, op_call3 rfl rfl Try.call42 (by rw [show aa.eval (.tmp 96) = _ from hd 2 rfl, show aa.eval (.tmp 97) = _ from hd 3 rfl, show aa.eval (.tmp 98) = .slice A l.length k from hd 4 rfl]; exact got_ms (Nat.le_trans HB.out.size hb.size) (rClose_got Wn Hn A k l _ (HRM.out.to (bel_then HB.out hb)) (by omega) HS.out HAL.out))⟩
      | 6, _, _ => exact .inl ⟨rfl, op_call2 rfl rfl Try.call39 (by obtain ⟨A1, k1, e1, r1⟩ := ms_reads (hd 1 rfl); obtain ⟨A2, k2, e2, r2⟩ := ms_reads (hd 5 rfl); rw [show aa.eval (.tmp 95) = _ from e1, show aa.eval (.tmp 99) = _ from e2]; exact equalM_same A1 k1 A2 k2 _ _ r1 r2 HKS.out)⟩
      | 7, _, _ => exact .inl ⟨rfl, op_mv rfl (hd 6 rfl)⟩
      | 8, _, _ => exact .inl ⟨⟨rfl, .inl (hd 7 rfl)⟩, op_mv rfl (hs 10 rfl)⟩
      | 9, _, _ => exact .inl ⟨⟨rfl, .inl (hd 7 rfl)⟩, pure_b (bool_eq (by decide)) (⟨_, op_eqlE rfl (hd 8 rfl) rfl, rfl⟩)⟩
      | 10, _, _ => exact .inl ⟨rfl, ⟨_, op_pickT rfl (hd 7 rfl) (hd 9 rfl), rfl⟩⟩
      | 11, _, _ => exact .inl ⟨rfl, op_mv rfl (hd 10 rfl)⟩
      | 12, _, _ => exact .inl ⟨⟨rfl, .inl (hd 11 rfl)⟩, op_call0 rfl rfl Try.call18 (awake_got _)⟩
      | 13, _, _ => exact .inl ⟨rfl, ⟨_, op_pickT rfl (hd 11 rfl) (hd 12 rfl), rfl⟩⟩
      | qi + 14, h, _ => omega
    intro vs X2 hb hv hal hne
    replace HB := Hd.mk (bel_then HB.out hb)
    replace HE := Hd.mk (HE.out.to hb)
    replace OKA := Hd.mk (OKA.out.to hb)
    replace OKC := Hd.mk (OKC.out.to hb)
    have e107 : vs 107 = .bool true := hv 13 (by decide) rfl
    simp only [PA, e107]
    clear hv hal hne hb e107
    go_wp2_with fail
    go_ret
    exact ⟨_, rfl, HB.out, rfl⟩
end Go.Proofs.Ytddbmckbankmeaa
