/- The classes of cells: the reference's, and the program's errors. -/
import Derived.Test.YtddbmckbankmeaaUh
set_option linter.unusedVariables false
set_option linter.unusedSimpArgs false
namespace Go.Proofs.Ytddbmckbankmeaa
open Go.RowKit
def rcL (W H : Int) (ms : List Mv) (N i : Nat) : List Int := cellsK W H ms i ++ List.replicate (N - i) 0
def rcM (W H : Int) (ms : List Mv) (N i : Nat) (v : Int) : List Int := cellsK W H ms i ++ v :: List.replicate (N - i - 1) 0
section
variable {W H : Int} {ms : List Mv} {N i : Nat} {u v : Int}
theorem rcL_zero : rcL W H ms N 0 = List.replicate N 0 := by unfold rcL cellsK; simp
theorem rcL_all : rcL W H ms N N = cellsK W H ms N := by unfold rcL; simp
theorem rcL_length (hi : i ≤ N) : (rcL W H ms N i).length = N := by unfold rcL; rw [List.length_append, cellsK_length, List.length_replicate]; omega
theorem rcM_length (hi : i < N) : (rcM W H ms N i v).length = N := by unfold rcM; rw [List.length_append, cellsK_length, List.length_cons, List.length_replicate]; omega
theorem rcL_set (hi : i < N) : (rcL W H ms N i).set i v = rcM W H ms N i v := by
  unfold rcL rcM
  rw [List.set_append_right _ _ (by rw [cellsK_length]; omega), cellsK_length, Nat.sub_self, show N - i = (N - i - 1) + 1 by omega, List.replicate_succ, List.set_cons_zero]
  simp
theorem rcM_set (hi : i < N) : (rcM W H ms N i u).set i v = rcM W H ms N i v := by
  unfold rcM
  rw [List.set_append_right _ _ (by rw [cellsK_length]; omega), cellsK_length, Nat.sub_self, List.set_cons_zero]
theorem rcM_get (hi : i < N) : (rcM W H ms N i v).getD i 0 = v := by
  unfold rcM
  rw [List.getD_eq_getElem?_getD, List.getElem?_append_right (by rw [cellsK_length]; omega), cellsK_length, Nat.sub_self]
  rfl
theorem rcM_next (hi : i < N) : rcM W H ms N i (leastK W H ms i ms.length) = rcL W H ms N (i + 1) := by
  unfold rcM rcL
  rw [cellsK_add, List.append_assoc, show N - (i + 1) = N - i - 1 by omega]
  rfl
end

set_option maxRecDepth 100000 in
set_option maxHeartbeats 1000000 in
theorem Cells_no (Wd Ht : Int) (A : Option Addr) (k : Nat) (ms : List Mv) (w : World) (hrm : RdM w A ms) (hln : ms.length ≤ 100000) (hn : (sizeB Wd Ht && gB Wd Ht ms) = false) :
    Calls Try.prog 29 #[.int .i64 Wd, .int .i64 Ht, .slice A ms.length k] w (Got w (isP (isV (.slice none 0 0)) (isV (.int .i64 2))).p) := by
  have HRM := Hd.mk hrm
  clear hrm
  by_cases hs : sizeB Wd Ht = true
  · have hg : gB Wd Ht ms = false := by rw [hs] at hn; simpa using hn
    have HS := Hd.mk hs
    have HG := Hd.mk hg
    clear hs hg hn
    go_enter Try.func29, Try.ntmps29
    go_upto_region 1 with fail
    have HE : Hd (Env w []) := ⟨trivial⟩
    have HB : Hd (Below w.heap.size w w) := ⟨Below.refl _ _⟩
    refine wp_region_vd 4 [14, 15, 16, 8] [0, 1, 2] [3] 84 [.int .i64 0, .int .i64 0] [isV (.int .i64 Wd), isV (.int .i64 Ht), isV (.agg #[.int .i64 Wd, .int .i64 Ht]), SP.any] (by rfl) alloc_Z ?_ ?_
    · intro qi qh qA aa wx hb hs hd
      match qi, qh, qA with
      | 0, _, _ => exact .inl ⟨rfl, op_mv rfl (hs 0 rfl)⟩
      | 1, _, _ => exact .inl ⟨rfl, op_mv rfl (hs 1 rfl)⟩
      | 2, _, _ => exact .inl ⟨rfl, ⟨_, op_buZ rfl (hd 0 rfl) (hd 1 rfl), rfl⟩⟩
      | 3, _, h => cases h
      | qi + 4, h, _ => omega
    · intro vs X1 hb hv hal hne
      have HL0 := Hd.mk (HE.out.lt)
      have HBW := HB
      replace HB := Hd.mk (bel_then HB.out hb)
      replace HE : Hd (Env X1 []) := ⟨HE.out.to hb⟩
      have HLS := HL0
      have e16 : vs 16 = .agg #[.int .i64 Wd, .int .i64 Ht] := hv 2 (by decide) rfl
      obtain ⟨g8, e8, l8, b8⟩ : ∃ g, vs 8 = .pointer (some ⟨g, 0, none⟩) ∧ _ := hal 3 rfl
      replace HE : Hd (Env X1 [⟨g8, 84, [.int .i64 0, .int .i64 0]⟩]) := ⟨Env.addne (e := ⟨g8, 84, [.int .i64 0, .int .i64 0]⟩) HE.out b8 (fun e' he => Nat.ne_of_lt (Nat.lt_of_lt_of_le (HL0.out e' he) l8))⟩
      have G8 : Hd (w.heap.size ≤ g8) := ⟨Nat.le_trans HBW.out.size l8⟩
      simp only [putAll, List.foldl_cons, List.foldl_nil, Act.put, List.setIfInBounds_toArray, List.set_cons_succ, List.set_cons_zero, List.drop_succ_cons, List.drop_zero, e16, e8]
      generalize vs 14 = s14
      generalize vs 15 = s15
      clear hv hal hne hb HL0 HBW HLS e16 e8 l8 b8
      refine wpList_st rfl rfl rfl rfl rfl (sto_Z (HE.out.get 0 rfl)) ?_
      have HE' : Env (putL X1 g8 0 [.int .i64 Wd, .int .i64 Ht]) [⟨g8, 84, [.int .i64 Wd, .int .i64 Ht]⟩] := HE.out.putF 0 rfl rfl
      have HB' := putL_below (show w.heap.size ≤ g8 from G8.out) [.int .i64 Wd, .int .i64 Ht] _ 0 HB.out
      generalize putL X1 g8 0 [.int .i64 Wd, .int .i64 Ht] = X2 at *
      replace HE := Hd.mk HE'
      replace HB := Hd.mk HB'
      clear HE' HB'
      go_upto_region 2 with fail
      refine wp_region_vd 9 [17, 18, 19, 20, 21, 22, 23, 24, 25] [2, 3, 5, 7, 8] [] 84 [.int .i64 0, .int .i64 0] [isV (.agg #[.int .i64 Wd, .int .i64 Ht]), isV (.bool true), isV (.bool false), isV (.bool false), isV (.agg #[.int .i64 Wd, .int .i64 Ht]), isV (.slice A ms.length k), isV (.bool false), isV (.bool true), isV (.bool true)] (by rfl) alloc_Z ?_ ?_
      · intro qi qh qA aa wx hb hs hd
        match qi, qh, qA with
        | 0, _, _ => exact .inl ⟨rfl, op_ldZ rfl rfl (hs 8 rfl) ((HE.out.to hb).get 0 rfl)⟩
        | 1, _, _ => exact .inl ⟨rfl, wp_b (bool_eq HS.out) (op_call1 rfl rfl Try.call53 (by rw [(show aa.eval (.tmp 17) = .agg #[.int .i64 Wd, .int .i64 Ht] from (hd 0 rfl))]; exact valid_got Wd Ht _))⟩
        | 2, _, _ => exact .inl ⟨rfl, ⟨_, op_not rfl (hd 1 rfl), rfl⟩⟩
        | 3, _, _ => exact .inl ⟨rfl, op_mv rfl (hd 2 rfl)⟩
        | 4, _, _ => exact .inl ⟨⟨rfl, .inl (hd 3 rfl)⟩, op_ldZ rfl rfl (hs 8 rfl) ((HE.out.to hb).get 0 rfl)⟩
        | 5, _, _ => exact .inl ⟨⟨rfl, .inl (hd 3 rfl)⟩, op_mv rfl (hs 2 rfl)⟩
        | 6, _, _ => exact .inl ⟨⟨rfl, .inl (hd 3 rfl)⟩, wp_b (bool_eq HG.out) (op_call2 rfl rfl Try.call63 (by rw [(show aa.eval (.tmp 21) = .agg #[.int .i64 Wd, .int .i64 Ht] from (hd 4 rfl)), (show aa.eval (.tmp 22) = .slice A ms.length k from (hd 5 rfl))]; exact group_got Wd Ht A k ms _ (HRM.out.to (bel_then HB.out hb)) (by omega) HS.out))⟩
        | 7, _, _ => exact .inl ⟨⟨rfl, .inl (hd 3 rfl)⟩, ⟨_, op_not rfl (hd 6 rfl), rfl⟩⟩
        | 8, _, _ => exact .inl ⟨rfl, ⟨_, op_pickF rfl (hd 3 rfl) (hd 7 rfl), rfl⟩⟩
        | qi + 9, h, _ => omega
      · intro vs X3 hb hv hal hne
        have HL0 := Hd.mk (HE.out.lt)
        have HBW := HB
        replace HB := Hd.mk (bel_then HB.out hb)
        replace HE : Hd (Env X3 [⟨g8, 84, [.int .i64 Wd, .int .i64 Ht]⟩]) := ⟨HE.out.to hb⟩
        have HLS := HL0
        have e25 : vs 25 = .bool true := hv 8 (by decide) rfl
        simp only [putAll, List.foldl_cons, List.foldl_nil, Act.put, List.setIfInBounds_toArray, List.set_cons_succ, List.set_cons_zero, List.drop_succ_cons, List.drop_zero, e25]
        generalize vs 17 = s17
        generalize vs 18 = s18
        generalize vs 19 = s19
        generalize vs 20 = s20
        generalize vs 21 = s21
        generalize vs 22 = s22
        generalize vs 23 = s23
        generalize vs 24 = s24
        clear hv hal hne hb HL0 HBW HLS e25
        go_upto_region 3 with fail
        refine wp_region_vd 0 [] [] [] 84 [.int .i64 0, .int .i64 0] [] (by rfl) alloc_Z ?_ ?_
        · intro qi qh qA aa wx hb hs hd
          match qi, qh, qA with
          | qi + 0, h, _ => omega
        · intro vs X4 hb hv hal hne
          have HL0 := Hd.mk (HE.out.lt)
          have HBW := HB
          replace HB := Hd.mk (bel_then HB.out hb)
          replace HE : Hd (Env X4 [⟨g8, 84, [.int .i64 Wd, .int .i64 Ht]⟩]) := ⟨HE.out.to hb⟩
          have HLS := HL0
          simp only [putAll, List.foldl_cons, List.foldl_nil, Act.put, List.setIfInBounds_toArray, List.set_cons_succ, List.set_cons_zero, List.drop_succ_cons, List.drop_zero]
          clear hv hal hne hb HL0 HBW HLS
          go_wp2_with fail
          refine bodyPost_ret (v := .tuple #[.slice none 0 0, .int .i64 2]) (by simp [results, Try.results29, go_sem]) rfl ?_
          exact ⟨_, rfl, HB.out, _, _, rfl, rfl, rfl⟩
  · have hs' : sizeB Wd Ht = false := by simpa using hs
    have HS := Hd.mk hs'
    clear hs hs' hn
    go_enter Try.func29, Try.ntmps29
    go_upto_region 1 with fail
    have HE : Hd (Env w []) := ⟨trivial⟩
    have HB : Hd (Below w.heap.size w w) := ⟨Below.refl _ _⟩
    refine wp_region_vd 4 [14, 15, 16, 8] [0, 1, 2] [3] 84 [.int .i64 0, .int .i64 0] [isV (.int .i64 Wd), isV (.int .i64 Ht), isV (.agg #[.int .i64 Wd, .int .i64 Ht]), SP.any] (by rfl) alloc_Z ?_ ?_
    · intro qi qh qA aa wx hb hs hd
      match qi, qh, qA with
      | 0, _, _ => exact .inl ⟨rfl, op_mv rfl (hs 0 rfl)⟩
      | 1, _, _ => exact .inl ⟨rfl, op_mv rfl (hs 1 rfl)⟩
      | 2, _, _ => exact .inl ⟨rfl, ⟨_, op_buZ rfl (hd 0 rfl) (hd 1 rfl), rfl⟩⟩
      | 3, _, h => cases h
      | qi + 4, h, _ => omega
    · intro vs X1 hb hv hal hne
      have HL0 := Hd.mk (HE.out.lt)
      have HBW := HB
      replace HB := Hd.mk (bel_then HB.out hb)
      replace HE : Hd (Env X1 []) := ⟨HE.out.to hb⟩
      have HLS := HL0
      have e16 : vs 16 = .agg #[.int .i64 Wd, .int .i64 Ht] := hv 2 (by decide) rfl
      obtain ⟨g8, e8, l8, b8⟩ : ∃ g, vs 8 = .pointer (some ⟨g, 0, none⟩) ∧ _ := hal 3 rfl
      replace HE : Hd (Env X1 [⟨g8, 84, [.int .i64 0, .int .i64 0]⟩]) := ⟨Env.addne (e := ⟨g8, 84, [.int .i64 0, .int .i64 0]⟩) HE.out b8 (fun e' he => Nat.ne_of_lt (Nat.lt_of_lt_of_le (HL0.out e' he) l8))⟩
      have G8 : Hd (w.heap.size ≤ g8) := ⟨Nat.le_trans HBW.out.size l8⟩
      simp only [putAll, List.foldl_cons, List.foldl_nil, Act.put, List.setIfInBounds_toArray, List.set_cons_succ, List.set_cons_zero, List.drop_succ_cons, List.drop_zero, e16, e8]
      generalize vs 14 = s14
      generalize vs 15 = s15
      clear hv hal hne hb HL0 HBW HLS e16 e8 l8 b8
      refine wpList_st rfl rfl rfl rfl rfl (sto_Z (HE.out.get 0 rfl)) ?_
      have HE' : Env (putL X1 g8 0 [.int .i64 Wd, .int .i64 Ht]) [⟨g8, 84, [.int .i64 Wd, .int .i64 Ht]⟩] := HE.out.putF 0 rfl rfl
      have HB' := putL_below (show w.heap.size ≤ g8 from G8.out) [.int .i64 Wd, .int .i64 Ht] _ 0 HB.out
      generalize putL X1 g8 0 [.int .i64 Wd, .int .i64 Ht] = X2 at *
      replace HE := Hd.mk HE'
      replace HB := Hd.mk HB'
      clear HE' HB'
      go_upto_region 2 with fail
      refine wp_region_vd 9 [17, 18, 19, 20, 21, 22, 23, 24, 25] [2, 3, 8] [] 84 [.int .i64 0, .int .i64 0] [isV (.agg #[.int .i64 Wd, .int .i64 Ht]), isV (.bool false), isV (.bool true), isV (.bool true), isV undef, isV undef, isV undef, isV undef, isV (.bool true)] (by rfl) alloc_Z ?_ ?_
      · intro qi qh qA aa wx hb hs hd
        match qi, qh, qA with
        | 0, _, _ => exact .inl ⟨rfl, op_ldZ rfl rfl (hs 8 rfl) ((HE.out.to hb).get 0 rfl)⟩
        | 1, _, _ => exact .inl ⟨rfl, wp_b (bool_eq HS.out) (op_call1 rfl rfl Try.call53 (by rw [(show aa.eval (.tmp 17) = .agg #[.int .i64 Wd, .int .i64 Ht] from (hd 0 rfl))]; exact valid_got Wd Ht _))⟩
        | 2, _, _ => exact .inl ⟨rfl, ⟨_, op_not rfl (hd 1 rfl), rfl⟩⟩
        | 3, _, _ => exact .inl ⟨rfl, op_mv rfl (hd 2 rfl)⟩
        | 4, _, _ => exact .inr ⟨⟨rfl, .inl (hd 3 rfl)⟩, rfl⟩
        | 5, _, _ => exact .inr ⟨⟨rfl, .inl (hd 3 rfl)⟩, rfl⟩
        | 6, _, _ => exact .inr ⟨⟨rfl, .inl (hd 3 rfl)⟩, rfl⟩
        | 7, _, _ => exact .inr ⟨⟨rfl, .inl (hd 3 rfl)⟩, rfl⟩
        | 8, _, _ => exact .inl ⟨rfl, ⟨_, op_pickT rfl (hd 3 rfl) rfl, rfl⟩⟩
        | qi + 9, h, _ => omega
      · intro vs X3 hb hv hal hne
        have HL0 := Hd.mk (HE.out.lt)
        have HBW := HB
        replace HB := Hd.mk (bel_then HB.out hb)
        replace HE : Hd (Env X3 [⟨g8, 84, [.int .i64 Wd, .int .i64 Ht]⟩]) := ⟨HE.out.to hb⟩
        have HLS := HL0
        have e25 : vs 25 = .bool true := hv 8 (by decide) rfl
        simp only [putAll, List.foldl_cons, List.foldl_nil, Act.put, List.setIfInBounds_toArray, List.set_cons_succ, List.set_cons_zero, List.drop_succ_cons, List.drop_zero, e25]
        generalize vs 17 = s17
        generalize vs 18 = s18
        generalize vs 19 = s19
        generalize vs 20 = s20
        generalize vs 21 = s21
        generalize vs 22 = s22
        generalize vs 23 = s23
        generalize vs 24 = s24
        clear hv hal hne hb HL0 HBW HLS e25
        go_upto_region 3 with fail
        refine wp_region_vd 0 [] [] [] 84 [.int .i64 0, .int .i64 0] [] (by rfl) alloc_Z ?_ ?_
        · intro qi qh qA aa wx hb hs hd
          match qi, qh, qA with
          | qi + 0, h, _ => omega
        · intro vs X4 hb hv hal hne
          have HL0 := Hd.mk (HE.out.lt)
          have HBW := HB
          replace HB := Hd.mk (bel_then HB.out hb)
          replace HE : Hd (Env X4 [⟨g8, 84, [.int .i64 Wd, .int .i64 Ht]⟩]) := ⟨HE.out.to hb⟩
          have HLS := HL0
          simp only [putAll, List.foldl_cons, List.foldl_nil, Act.put, List.setIfInBounds_toArray, List.set_cons_succ, List.set_cons_zero, List.drop_succ_cons, List.drop_zero]
          clear hv hal hne hb HL0 HBW HLS
          go_wp2_with fail
          refine bodyPost_ret (v := .tuple #[.slice none 0 0, .int .i64 2]) (by simp [results, Try.results29, go_sem]) rfl ?_
          exact ⟨_, rfl, HB.out, _, _, rfl, rfl, rfl⟩
set_option maxRecDepth 100000 in
set_option maxHeartbeats 1000000 in
theorem rCells_got (Wn Hn : Nat) (A : Option Addr) (k : Nat) (ms : List Mv) (w : World) (hrm : RdM w A ms) (hln : ms.length ≤ 9223372036854775807) (hs : sizeB Wn Hn = true) (hall : ∀ i, i < ms.length → Al Wn Hn (nthM ms i)) :
    Calls Try.prog 33 #[.int .i64 (((Wn : Nat) : Int)), .int .i64 (((Hn : Nat) : Int)), .slice A ms.length k] w (Got w (isF w.heap.size (cellsK Wn Hn ms ((Wn : Int) * (Hn : Int)).toNat)).p) := by
  have HRM := Hd.mk hrm
  have HALL := Hd.mk hall
  have hwh := sizeB_bounds hs
  have hmb := mul_small (a := (Wn : Int)) (b := (Hn : Int)) (by omega) (by omega)
  obtain ⟨N, hN⟩ : ∃ N : Nat, (Wn : Int) * (Hn : Int) = N := ⟨((Wn : Int) * (Hn : Int)).toNat, by omega⟩
  have hN64 : N ≤ 64 := by omega
  have HNN : Hd ((Wn : Int) * (Hn : Int) = (N : Int)) := ⟨hN⟩
  have HTN : Hd (((Wn : Int) * (Hn : Int)).toNat = N) := ⟨by omega⟩
  rw [HTN.out]
  clear hrm hall hs hN hmb
  go_enter Try.func33, Try.ntmps33
  go_upto_region 1 with fail
  have HE : Hd (Env w []) := ⟨trivial⟩
  have HB : Hd (Below w.heap.size w w) := ⟨Below.refl _ _⟩
  refine wp_region_vd 4 [11, 12, 13, 14] [0, 1, 2] [] 84 [.int .i64 0, .int .i64 0] [isV (.int .i64 (((Wn : Nat) : Int))), isV (.int .i64 (((Hn : Nat) : Int))), isV (.int .i64 (((N : Nat) : Int))), isF w.heap.size (List.replicate N (0 : Int))] (by rfl) alloc_Z ?_ ?_
  · intro qi qh qA aa wx hb hs hd
    match qi, qh, qA with
    | 0, _, _ => exact .inl ⟨rfl, op_mv rfl (hs 0 rfl)⟩
    | 1, _, _ => exact .inl ⟨rfl, op_mv rfl (hs 1 rfl)⟩
    | 2, _, _ => exact .inl ⟨rfl, pure_b (int_eq HNN.out) (⟨_, op_mul (by unfold Fit; rw [HNN.out]; omega) rfl (hd 0 rfl) (hd 1 rfl), rfl⟩)⟩
    | 3, _, _ => exact .inl ⟨rfl, op_make (by omega) rfl rfl (hd 2 rfl) (hd 2 rfl) w.heap.size hb.size⟩
    | qi + 4, h, _ => omega
  · intro vs X1 hb hv hal hne
    have HL0 := Hd.mk (HE.out.lt)
    have HBW := HB
    replace HB := Hd.mk (bel_then HB.out hb)
    replace HE : Hd (Env X1 []) := ⟨HE.out.to hb⟩
    have HLS := HL0
    have t14 : (isF w.heap.size (List.replicate N (0 : Int))).p (vs 14) X1 := hv 3 (by decide) rfl
    obtain ⟨g14, k14, rest14, e14, l14, m14, n14, b14⟩ := t14
    replace HE : Hd (Env X1 [⟨g14, 3, ints (List.replicate N (0 : Int)) ++ rest14⟩]) := ⟨Env.addne (e := ⟨g14, 3, ints (List.replicate N (0 : Int)) ++ rest14⟩) HE.out b14 (fun e' he => Nat.ne_of_lt (Nat.lt_of_lt_of_le (HL0.out e' he) l14))⟩
    have G14 : Hd (w.heap.size ≤ g14) := ⟨Nat.le_trans HBW.out.size l14⟩
    simp only [putAll, List.foldl_cons, List.foldl_nil, Act.put, List.setIfInBounds_toArray, List.set_cons_succ, List.set_cons_zero, List.drop_succ_cons, List.drop_zero, e14]
    generalize vs 11 = s11
    generalize vs 12 = s12
    generalize vs 13 = s13
    clear hv hal hne hb HL0 HBW HLS e14 l14 b14
    go_upto_region 2 with fail
    refine wp_region_vd 3 [15, 16, 17] [0, 2] [] 84 [.int .i64 0, .int .i64 0] [isV (.slice (some ⟨g14, 0, none⟩) ((List.replicate N (0 : Int)).length) k14), isV (.int .i64 (((N : Nat) : Int))), isV (.int .i64 0)] (by rfl) alloc_Z ?_ ?_
    · intro qi qh qA aa wx hb hs hd
      match qi, qh, qA with
      | 0, _, _ => exact .inl ⟨rfl, op_mv rfl (hs 7 rfl)⟩
      | 1, _, _ => exact .inl ⟨rfl, wp_b (int_eq (by rw [List.length_replicate])) (op_len rfl rfl (hd 0 rfl))⟩
      | 2, _, _ => exact .inl ⟨rfl, op_mv rfl rfl⟩
      | qi + 3, h, _ => omega
    · intro vs X2 hb hv hal hne
      have HL0 := Hd.mk (HE.out.lt)
      have HBW := HB
      replace HB := Hd.mk (bel_then HB.out hb)
      replace HE : Hd (Env X2 [⟨g14, 3, ints (List.replicate N (0 : Int)) ++ rest14⟩]) := ⟨HE.out.to hb⟩
      have HLS := HL0
      have e15 : vs 15 = .slice (some ⟨g14, 0, none⟩) ((List.replicate N (0 : Int)).length) k14 := hv 0 (by decide) rfl
      have e16 : vs 16 = .int .i64 (((N : Nat) : Int)) := hv 1 (by decide) rfl
      have e17 : vs 17 = .int .i64 0 := hv 2 (by decide) rfl
      simp only [putAll, List.foldl_cons, List.foldl_nil, Act.put, List.setIfInBounds_toArray, List.set_cons_succ, List.set_cons_zero, List.drop_succ_cons, List.drop_zero, e15, e16, e17]
      clear hv hal hne hb HL0 HBW HLS e15 e16 e17
      have HE0 : Env X2 [⟨g14, 3, ints (rcL Wn Hn ms N 0) ++ rest14⟩] := by rw [rcL_zero]; exact HE.out
      replace HE := Hd.mk HE0
      clear HE0
      go_wp2_with fail
      go_loopw [17] (fun s17 wr => ∃ i : Nat, i ≤ N ∧ s17 = .int .i64 i ∧ Env wr [⟨g14, 3, ints (rcL Wn Hn ms N i) ++ rest14⟩] ∧ Below w.heap.size w wr) (fun s17 _ => N - (intOf s17).toNat)
      case atStart => exact ⟨0, Nat.zero_le _, rfl, HE.out, HB.out⟩
      case round =>
        obtain ⟨i, hiN, rfl, he, hb⟩ := hrel
        clear HB HE
        have HB := Hd.mk hb
        have HE : Hd (Env wr [⟨g14, 3, ints (rcL Wn Hn ms N i) ++ rest14⟩]) := ⟨he⟩
        clear he hb
        by_cases hi : i < N
        · skip
          go_upto_region 4 with fail
          refine wp_region_vd 1 [19] [0] [] 84 [.int .i64 0, .int .i64 0] [isV (.int .i64 (((i : Nat) : Int)))] (by rfl) alloc_Z ?_ ?_
          · intro qi qh qA aa wx hb hs hd
            match qi, qh, qA with
            | 0, _, _ => exact .inl ⟨rfl, op_mv rfl (hs 17 rfl)⟩
            | qi + 1, h, _ => omega
          · intro vs X1 hb hv hal hne
            have HL0 := Hd.mk (HE.out.lt)
            have HBW := HB
            replace HB := Hd.mk (bel_then HB.out hb)
            replace HE : Hd (Env X1 [⟨g14, 3, ints (rcL Wn Hn ms N i) ++ rest14⟩]) := ⟨HE.out.to hb⟩
            have HLS := HL0
            have e19 : vs 19 = .int .i64 (((i : Nat) : Int)) := hv 0 (by decide) rfl
            simp only [putAll, List.foldl_cons, List.foldl_nil, Act.put, List.setIfInBounds_toArray, List.set_cons_succ, List.set_cons_zero, List.drop_succ_cons, List.drop_zero, e19]
            clear hv hal hne hb HL0 HBW HLS e19
            go_upto_region 5 with fail
            refine wp_region_vd 4 [20, 21, 22, 23] [0, 1, 2] [] 84 [.int .i64 0, .int .i64 0] [isV (.slice (some ⟨g14, 0, none⟩) ((List.replicate N (0 : Int)).length) k14), isV (.int .i64 (((i : Nat) : Int))), isV (.int .i64 (((i : Nat) : Int))), isV (.pointer (some (Addr.add (⟨g14, 0, none⟩) (((i : Nat) : Int)).toNat)))] (by rfl) alloc_Z ?_ ?_
            · intro qi qh qA aa wx hb hs hd
              match qi, qh, qA with
              | 0, _, _ => exact .inl ⟨rfl, op_mv rfl (hs 7 rfl)⟩
              | 1, _, _ => exact .inl ⟨rfl, op_mv rfl (hs 8 rfl)⟩
              | 2, _, _ => exact .inl ⟨rfl, op_mv rfl (hs 8 rfl)⟩
              | 3, _, _ => exact .inl ⟨rfl, op_run rfl (op_idx (by omega) (by rw [List.length_replicate]; omega) rfl (hd 0 rfl) (hd 1 rfl) _) rfl⟩
              | qi + 4, h, _ => omega
            · intro vs X2 hb hv hal hne
              have HL0 := Hd.mk (HE.out.lt)
              have HBW := HB
              replace HB := Hd.mk (bel_then HB.out hb)
              replace HE : Hd (Env X2 [⟨g14, 3, ints (rcL Wn Hn ms N i) ++ rest14⟩]) := ⟨HE.out.to hb⟩
              have HLS := HL0
              have e23 : vs 23 = .pointer (some (Addr.add (⟨g14, 0, none⟩) (((i : Nat) : Int)).toNat)) := hv 3 (by decide) rfl
              have e22 : vs 22 = .int .i64 (((i : Nat) : Int)) := hv 2 (by decide) rfl
              simp only [putAll, List.foldl_cons, List.foldl_nil, Act.put, List.setIfInBounds_toArray, List.set_cons_succ, List.set_cons_zero, List.drop_succ_cons, List.drop_zero, e23, e22]
              generalize vs 20 = s20
              generalize vs 21 = s21
              clear hv hal hne hb HL0 HBW HLS e23 e22
              refine wpList_st rfl rfl rfl rfl rfl (sto_at (HE.out.get 0 rfl) (by rw [rcL_length hiN]; omega)) ?_
              have HE' : Env (putL X2 g14 (((i : Nat) : Int)).toNat [.int .i64 (((i : Nat) : Int))]) [⟨g14, 3, ints (((rcL Wn Hn ms N i)).set (((i : Nat) : Int)).toNat (((i : Nat) : Int))) ++ rest14⟩] := HE.out.putI 0 rfl (by rw [rcL_length hiN]; omega)
              have HB' := putL_below (show w.heap.size ≤ g14 from G14.out) [.int .i64 (((i : Nat) : Int))] _ (((i : Nat) : Int)).toNat HB.out
              generalize putL X2 g14 (((i : Nat) : Int)).toNat [.int .i64 (((i : Nat) : Int))] = X3 at *
              replace HE := Hd.mk HE'
              replace HB := Hd.mk HB'
              clear HE' HB'
              have HE1 : Env X3 [⟨g14, 3, ints (rcM Wn Hn ms N i ((i : Nat) : Int)) ++ rest14⟩] := by have z := HE.out; rw [show (((i : Nat) : Int)).toNat = i from rfl, rcL_set hi] at z; exact z
              replace HE := Hd.mk HE1
              clear HE1
              go_upto_region 6 with fail
              refine wp_region_vd 3 [24, 25, 26] [0, 2] [] 84 [.int .i64 0, .int .i64 0] [isV (.slice A ms.length k), isV (.int .i64 (((ms.length : Nat) : Int))), isV (.int .i64 0)] (by rfl) alloc_Z ?_ ?_
              · intro qi qh qA aa wx hb hs hd
                match qi, qh, qA with
                | 0, _, _ => exact .inl ⟨rfl, op_mv rfl (hs 2 rfl)⟩
                | 1, _, _ => exact .inl ⟨rfl, op_lenvVN rfl rfl (hd 0 rfl)⟩
                | 2, _, _ => exact .inl ⟨rfl, op_mv rfl rfl⟩
                | qi + 3, h, _ => omega
              · intro vs X4 hb hv hal hne
                have HL0 := Hd.mk (HE.out.lt)
                have HBW := HB
                replace HB := Hd.mk (bel_then HB.out hb)
                replace HE : Hd (Env X4 [⟨g14, 3, ints (rcM Wn Hn ms N i ((i : Nat) : Int)) ++ rest14⟩]) := ⟨HE.out.to hb⟩
                have HLS := HL0
                have e24 : vs 24 = .slice A ms.length k := hv 0 (by decide) rfl
                have e25 : vs 25 = .int .i64 (((ms.length : Nat) : Int)) := hv 1 (by decide) rfl
                have e26 : vs 26 = .int .i64 0 := hv 2 (by decide) rfl
                simp only [putAll, List.foldl_cons, List.foldl_nil, Act.put, List.setIfInBounds_toArray, List.set_cons_succ, List.set_cons_zero, List.drop_succ_cons, List.drop_zero, e24, e25, e26]
                clear hv hal hne hb HL0 HBW HLS e24 e25 e26
                go_wp2_with fail
                go_loopw [26] (fun s26 wr => ∃ b : Nat, b ≤ ms.length ∧ s26 = .int .i64 b ∧ Env wr [⟨g14, 3, ints (rcM Wn Hn ms N i (leastK Wn Hn ms i b)) ++ rest14⟩] ∧ Below w.heap.size w wr) (fun s26 _ => ms.length - (intOf s26).toNat)
                case atStart => exact ⟨0, Nat.zero_le _, rfl, HE.out, HB.out⟩
                case round =>
                  obtain ⟨b, hbl, rfl, he, hb⟩ := hrel
                  clear HB HE
                  have HB := Hd.mk hb
                  have HE : Hd (Env wr [⟨g14, 3, ints (rcM Wn Hn ms N i (leastK Wn Hn ms i b)) ++ rest14⟩]) := ⟨he⟩
                  clear he hb
                  by_cases hb2 : b < ms.length
                  · obtain ⟨ad, rfl⟩ := HRM.out.some_ (at_nthM hb2)
                    obtain ⟨LK, hlk⟩ : ∃ z, z = leastK Wn Hn ms i b := ⟨_, rfl⟩
                    rw [← hlk] at HE
                    have HLK := Hd.mk hlk
                    clear hlk
                    go_upto_region 8 with fail
                    refine wp_region_vd 3 [28, 29, 10] [] [2] 26 [.int .i64 0, .int .i64 0, .int .i64 0, .bool false] [isV (.pointer (some (ad.add (b * 4)))), isV (.agg #[.int .i64 ((nthM ms b).x), .int .i64 ((nthM ms b).y), .int .i64 ((nthM ms b).t), .bool ((nthM ms b).f)]), SP.any] (by rfl) alloc_N ?_ ?_
                    · intro qi qh qA aa wx hb hs hd
                      match qi, qh, qA with
                      | 0, _, _ => exact .inl ⟨rfl, op_run rfl (op_idxVN hb2 rfl (hs 24 rfl) (hs 26 rfl) _) rfl⟩
                      | 1, _, _ => exact .inl ⟨rfl, op_ldvVN rfl rfl (hd 0 rfl) ((HRM.out.to (bel_then HB.out hb)).at_ (at_nthM hb2))⟩
                      | 2, _, h => cases h
                      | qi + 3, h, _ => omega
                    · intro vs X1 hb hv hal hne
                      have HL0 := Hd.mk (HE.out.lt)
                      have HBW := HB
                      replace HB := Hd.mk (bel_then HB.out hb)
                      replace HE : Hd (Env X1 [⟨g14, 3, ints (rcM Wn Hn ms N i LK) ++ rest14⟩]) := ⟨HE.out.to hb⟩
                      have HLS := HL0
                      have e29 : vs 29 = .agg #[.int .i64 ((nthM ms b).x), .int .i64 ((nthM ms b).y), .int .i64 ((nthM ms b).t), .bool ((nthM ms b).f)] := hv 1 (by decide) rfl
                      obtain ⟨g10, e10, l10, b10⟩ : ∃ g, vs 10 = .pointer (some ⟨g, 0, none⟩) ∧ _ := hal 2 rfl
                      replace HE : Hd (Env X1 [⟨g14, 3, ints (rcM Wn Hn ms N i LK) ++ rest14⟩, ⟨g10, 26, [.int .i64 0, .int .i64 0, .int .i64 0, .bool false]⟩]) := ⟨Env.addne (e := ⟨g10, 26, [.int .i64 0, .int .i64 0, .int .i64 0, .bool false]⟩) HE.out b10 (fun e' he => Nat.ne_of_lt (Nat.lt_of_lt_of_le (HL0.out e' he) l10))⟩
                      have G10 : Hd (w.heap.size ≤ g10) := ⟨Nat.le_trans HBW.out.size l10⟩
                      simp only [putAll, List.foldl_cons, List.foldl_nil, Act.put, List.setIfInBounds_toArray, List.set_cons_succ, List.set_cons_zero, List.drop_succ_cons, List.drop_zero, e29, e10]
                      generalize vs 28 = s28
                      clear hv hal hne hb HL0 HBW HLS e29 e10 l10 b10
                      refine wpList_st rfl rfl rfl rfl rfl (sto_N (HE.out.get 1 rfl)) ?_
                      have HE' : Env (putL X1 g10 0 [.int .i64 ((nthM ms b).x), .int .i64 ((nthM ms b).y), .int .i64 ((nthM ms b).t), .bool ((nthM ms b).f)]) [⟨g14, 3, ints (rcM Wn Hn ms N i LK) ++ rest14⟩, ⟨g10, 26, [.int .i64 ((nthM ms b).x), .int .i64 ((nthM ms b).y), .int .i64 ((nthM ms b).t), .bool ((nthM ms b).f)]⟩] := HE.out.putF 1 rfl rfl
                      have HB' := putL_below (show w.heap.size ≤ g10 from G10.out) [.int .i64 ((nthM ms b).x), .int .i64 ((nthM ms b).y), .int .i64 ((nthM ms b).t), .bool ((nthM ms b).f)] _ 0 HB.out
                      generalize putL X1 g10 0 [.int .i64 ((nthM ms b).x), .int .i64 ((nthM ms b).y), .int .i64 ((nthM ms b).t), .bool ((nthM ms b).f)] = X2 at *
                      replace HE := Hd.mk HE'
                      replace HB := Hd.mk HB'
                      clear HE' HB'
                      go_upto_region 9 with fail
                      refine wp_region_vs 13 [30, 31, 32, 33, 34, 35, 36, 37, 38, 39, 40, 41, 42] [0, 1, 2, 3, 6, 7, 9] [] 84 [.int .i64 0, .int .i64 0] [isV (.slice (some ⟨g14, 0, none⟩) ((List.replicate N (0 : Int)).length) k14), isV (.int .i64 (((i : Nat) : Int))), isV (.slice (some ⟨g14, 0, none⟩) ((List.replicate N (0 : Int)).length) k14), isV (.int .i64 (((i : Nat) : Int))), isV (.pointer (some (Addr.add (⟨g14, 0, none⟩) (((i : Nat) : Int)).toNat))), isV (.int .i64 LK), isV (.int .i64 (((Wn : Nat) : Int))), isV (.int .i64 (((Hn : Nat) : Int))), isV (.agg #[.int .i64 ((nthM ms b).x), .int .i64 ((nthM ms b).y), .int .i64 ((nthM ms b).t), .bool ((nthM ms b).f)]), isV (.int .i64 (((i : Nat) : Int))), isV (.int .i64 (cellM Wn Hn (nthM ms b) i)), isV (.int .i64 (leastK Wn Hn ms i (b + 1))), isV (.pointer (some (Addr.add (⟨g14, 0, none⟩) (((i : Nat) : Int)).toNat)))] (by kernel_rfl) (by kernel_rfl) (by kernel_rfl) (by rfl) alloc_Z (fun d v c a w h => by cases d <;> exact h) ?_ ?_
                      · intro qi qh qA aa wx hb hs hd
                        match qi, qh, qA with
                        | 0, _, _ => exact op_mv rfl (hs 7 rfl)
                        | 1, _, _ => exact op_mv rfl (hs 8 rfl)
                        | 2, _, _ => exact op_mv rfl (hs 7 rfl)
                        | 3, _, _ => exact op_mv rfl (hs 8 rfl)
                        | 4, _, _ => exact op_run rfl (op_idx (by omega) (by rw [List.length_replicate]; omega) rfl (hd 2 rfl) (hd 3 rfl) _) rfl
                        | 5, _, _ => exact op_ldAt rfl rfl (hd 4 rfl) ((by have z := RI.cellq (((HE.out.to hb).get 0 rfl).ri) (q := i) (by rw [rcM_length hi]; omega); rw [rcM_get hi] at z; exact z))
                        | 6, _, _ => exact op_mv rfl (hs 0 rfl)
                        | 7, _, _ => exact op_mv rfl (hs 1 rfl)
                        | 8, _, _ => exact op_ldN rfl rfl (hs 10 rfl) ((HE.out.to hb).get 1 rfl)
                        | 9, _, _ => exact op_mv rfl (hs 8 rfl)
                        | 10, _, _ => exact op_call4 rfl rfl Try.call56 (by rw [(show aa.eval (.tmp 36) = .int .i64 (((Wn : Nat) : Int)) from (hd 6 rfl)), (show aa.eval (.tmp 37) = .int .i64 (((Hn : Nat) : Int)) from (hd 7 rfl)), (show aa.eval (.tmp 38) = .agg #[.int .i64 ((nthM ms b).x), .int .i64 ((nthM ms b).y), .int .i64 ((nthM ms b).t), .bool ((nthM ms b).f)] from (hd 8 rfl)), (show aa.eval (.tmp 39) = .int .i64 (((i : Nat) : Int)) from (hd 9 rfl))]; exact goes_m (HALL.out b hb2) i (by omega) _)
                        | 11, _, _ => exact wp_b (int_eq (by rw [HLK.out]; rfl)) (op_min rfl rfl (hd 5 rfl) (hd 10 rfl))
                        | 12, _, _ => exact op_run rfl (op_idx (by omega) (by rw [List.length_replicate]; omega) rfl (hd 0 rfl) (hd 1 rfl) _) rfl
                        | qi + 13, h, _ => omega
                      · intro vs X3 hb hv hal hne
                        have HL0 := Hd.mk (HE.out.lt)
                        have HBW := HB
                        replace HB := Hd.mk (bel_then HB.out hb)
                        replace HE : Hd (Env X3 [⟨g14, 3, ints (rcM Wn Hn ms N i LK) ++ rest14⟩, ⟨g10, 26, [.int .i64 ((nthM ms b).x), .int .i64 ((nthM ms b).y), .int .i64 ((nthM ms b).t), .bool ((nthM ms b).f)]⟩]) := ⟨HE.out.to hb⟩
                        have HLS := HL0
                        have e42 : vs 42 = .pointer (some (Addr.add (⟨g14, 0, none⟩) (((i : Nat) : Int)).toNat)) := hv 12 (by decide) rfl
                        have e41 : vs 41 = .int .i64 (leastK Wn Hn ms i (b + 1)) := hv 11 (by decide) rfl
                        simp only [putAll, List.foldl_cons, List.foldl_nil, Act.put, List.setIfInBounds_toArray, List.set_cons_succ, List.set_cons_zero, List.drop_succ_cons, List.drop_zero, e42, e41]
                        generalize vs 30 = s30
                        generalize vs 31 = s31
                        generalize vs 32 = s32
                        generalize vs 33 = s33
                        generalize vs 34 = s34
                        generalize vs 35 = s35
                        generalize vs 36 = s36
                        generalize vs 37 = s37
                        generalize vs 38 = s38
                        generalize vs 39 = s39
                        generalize vs 40 = s40
                        clear hv hal hne hb HL0 HBW HLS e42 e41
                        refine wpList_st rfl rfl rfl rfl rfl (sto_at (HE.out.get 0 rfl) (by rw [rcM_length hi]; omega)) ?_
                        have HE' : Env (putL X3 g14 (((i : Nat) : Int)).toNat [.int .i64 (leastK Wn Hn ms i (b + 1))]) [⟨g14, 3, ints (((rcM Wn Hn ms N i LK)).set (((i : Nat) : Int)).toNat (leastK Wn Hn ms i (b + 1))) ++ rest14⟩, ⟨g10, 26, [.int .i64 ((nthM ms b).x), .int .i64 ((nthM ms b).y), .int .i64 ((nthM ms b).t), .bool ((nthM ms b).f)]⟩] := HE.out.putI 0 rfl (by rw [rcM_length hi]; omega)
                        have HB' := putL_below (show w.heap.size ≤ g14 from G14.out) [.int .i64 (leastK Wn Hn ms i (b + 1))] _ (((i : Nat) : Int)).toNat HB.out
                        generalize putL X3 g14 (((i : Nat) : Int)).toNat [.int .i64 (leastK Wn Hn ms i (b + 1))] = X4 at *
                        replace HE := Hd.mk HE'
                        replace HB := Hd.mk HB'
                        clear HE' HB'
                        have HE1 : Env X4 [⟨g14, 3, ints (rcM Wn Hn ms N i (leastK Wn Hn ms i (b + 1))) ++ rest14⟩] := by have z := HE.out; rw [show (((i : Nat) : Int)).toNat = i from rfl, rcM_set hi] at z; exact Env.front (L := [⟨g14, 3, ints (rcM Wn Hn ms N i (leastK Wn Hn ms i (b + 1))) ++ rest14⟩]) z
                        replace HE := Hd.mk HE1
                        clear HE1
                        go_wp2_with fail
                        go_roundw
                        case rel => exact ⟨b + 1, by omega, by go_num, HE.out, HB.out⟩
                        case measure => simp [intOf]; omega
                  · have e2 : b = ms.length := by omega
                    have HE1 : Env wr [⟨g14, 3, ints (rcL Wn Hn ms N (i + 1)) ++ rest14⟩] := by have z := HE.out; rw [e2, rcM_next hi] at z; exact z
                    replace HE := Hd.mk HE1
                    clear HE1
                    go_wp2_with fail
                    go_roundw
                    case rel => exact ⟨i + 1, by omega, by go_num, HE.out, HB.out⟩
                    case measure => simp [intOf]; omega
        · have e1 : i = N := by omega
          have HEB := (HE.out.get 0 rfl)
          rw [e1, rcL_all] at HEB
          have HEB2 := Hd.mk HEB
          clear HEB
          go_wp2_with fail
          go_ret
          exact ⟨_, rfl, HB.out, g14, k14, rest14, by rw [List.length_replicate, cellsK_length]; rfl, G14.out, by rw [cellsK_length]; rw [List.length_replicate] at m14; exact m14, n14, HEB2.out⟩
end Go.Proofs.Ytddbmckbankmeaa
