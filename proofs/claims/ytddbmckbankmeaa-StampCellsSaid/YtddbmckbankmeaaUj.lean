/- The law StampCells. -/
import Derived.Test.YtddbmckbankmeaaUi
set_option linter.unusedVariables false
set_option linter.unusedSimpArgs false
namespace Go.Proofs.Ytddbmckbankmeaa
open Go.RowKit
section
variable {lo lo' : Nat} {w : World} {v : Value} {A : Option Addr} {n k : Nat} {xs : List Int}
theorem own_lenI (h : OwnI lo w v xs) : ∃ A k, v = .slice A xs.length k := by
  rcases h.2 with ⟨rfl, hn⟩ | ⟨g', cap, cur, rfl, _⟩
  · exact ⟨none, 0, by rw [hn]⟩
  · exact ⟨_, cap, rfl⟩
theorem ownI_ri (h : OwnI lo w (.slice A n k) xs) : RI w A xs := by
  have h' := h
  intro hn
  rcases h.2 with ⟨_, h0⟩ | ⟨g', cap, cur, e, _, hgg, _⟩
  · omega
  · cases e
    refine ⟨_, rfl, fun j hj => ?_⟩
    exact World.ownsRow.cells h' (g := g') rfl j _ (ints_get xs hj)
theorem got_is {P : Program} {f : Nat} {vs : Array Value} {s : SP} (h : lo ≤ lo') (hc : Calls P f vs w (Got w (isP (isIs lo' xs) s).p)) : Calls P f vs w (Got w (isP (isIs lo xs) s).p) :=
  hc.mono fun e w' ⟨v, h1, h2, y, z, h3, h4, h5⟩ => ⟨v, h1, h2, y, z, h3, OwnI.lower h h4, h5⟩
end
theorem OwnS.lower {lo lo' : Nat} {w : World} {v : Value} {ms : List Mv} (h : lo ≤ lo') (ho : OwnS lo' w v ms) : OwnS lo w v ms := by
  refine ⟨ho.1, ?_⟩
  rcases ho.2 with hn | ⟨g', cap, cur, rfl, hb, hgg, rest⟩
  · exact .inl hn
  · exact .inr ⟨g', cap, cur, rfl, by omega, hgg, rest⟩
theorem rGB_iff (W H : Nat) (ms : List Mv) : rGB W H ms = true ↔ RG W H ms := by
  constructor
  · intro h
    by_cases hg : RG W H ms
    · exact hg
    · rw [rGB_no hg] at h; cases h
  · exact rGB_yes
theorem rG_few {W H : Nat} {ms : List Mv} (h : RG W H ms) (hs : sizeB W H = true) : ms.length ≤ 512 := by
  have hb := sizeB_bounds hs
  have := congrArg List.length h.ord
  have h2 := List.length_filter_le (fun x => memB x ms) (mvs1 W H 2)
  have h3 := moves_len (W := W) (H := H) (by omega) (by omega)
  omega
theorem got_isF {P : Program} {f lo lo' : Nat} {vs : Array Value} {w : World} {xs : List Int} (h : lo ≤ lo') (hc : Calls P f vs w (Got w (isF lo' xs).p)) : Calls P f vs w (Got w (isF lo xs).p) :=
  hc.mono fun e w' ⟨v, h1, h2, g, k, rest, h3, h4, h5⟩ => ⟨v, h1, h2, g, k, rest, h3, Nat.le_trans h h4, h5⟩
theorem equal_same {A A' : Option Addr} {c c' : Nat} {l : List Int} {w : World} (hr : RI w A l) (hr' : RI w A' l) (hl : l.length ≤ 1000000) :
    Calls Try.prog 32 #[.slice A l.length c, .slice A' l.length c'] w (Got w (isV (.bool true)).p) := by
  have q := equal_got A c l A' c' l w hr hr' hl hl
  rw [decide_eq_true rfl] at q
  exact q

set_option maxRecDepth 100000 in
set_option maxHeartbeats 1000000 in
theorem rGroup_sz (Wd Ht : Int) (hs : sizeB Wd Ht = false) (A : Option Addr) (k : Nat) (ms : List Mv) (w : World) :
    Calls Try.prog 31 #[.int .i64 Wd, .int .i64 Ht, .slice A ms.length k] w (Got w (isV (.bool false)).p) := by
  have HS := Hd.mk hs
  clear hs
  go_enter Try.func31, Try.ntmps31
  go_upto_region 1 with fail
  have HE : Hd (Env w []) := ⟨trivial⟩
  have HB : Hd (Below w.heap.size w w) := ⟨Below.refl _ _⟩
  refine wp_region_vd 18 [17, 18, 19, 20, 21, 22, 23, 24, 25, 26, 27, 28, 29, 30, 31, 32, 33, 34] [0, 1, 3, 4, 8, 9, 17] [] 84 [.int .i64 0, .int .i64 0] [isV (.int .i64 Wd), isV (.int .i64 Ht), isV (.bool false), isV (.bool true), isV (.bool true), isV undef, isV undef, isV undef, isV (.bool true), isV (.bool true), isV undef, isV undef, isV undef, isV undef, isV undef, isV undef, isV undef, isV (.bool true)] (by rfl) alloc_Z ?_ ?_
  · intro qi qh qA aa wx hb hs hd
    match qi, qh, qA with
    | 0, _, _ => exact .inl ⟨rfl, op_mv rfl (hs 0 rfl)⟩
    | 1, _, _ => exact .inl ⟨rfl, op_mv rfl (hs 1 rfl)⟩
    | 2, _, _ => exact .inl ⟨rfl, wp_b (bool_eq HS.out) (op_call2 rfl rfl Try.call25 (by rw [(show aa.eval (.tmp 17) = .int .i64 Wd from (hd 0 rfl)), (show aa.eval (.tmp 18) = .int .i64 Ht from (hd 1 rfl))]; exact rSize_got Wd Ht _))⟩
    | 3, _, _ => exact .inl ⟨rfl, ⟨_, op_not rfl (hd 2 rfl), rfl⟩⟩
    | 4, _, _ => exact .inl ⟨rfl, op_mv rfl (hd 3 rfl)⟩
    | 5, _, _ => exact .inr ⟨⟨rfl, .inl (hd 4 rfl)⟩, rfl⟩
    | 6, _, _ => exact .inr ⟨⟨rfl, .inl (hd 4 rfl)⟩, rfl⟩
    | 7, _, _ => exact .inr ⟨⟨rfl, .inl (hd 4 rfl)⟩, rfl⟩
    | 8, _, _ => exact .inl ⟨rfl, ⟨_, op_pickT rfl (hd 4 rfl) rfl, rfl⟩⟩
    | 9, _, _ => exact .inl ⟨rfl, op_mv rfl (hd 8 rfl)⟩
    | 10, _, _ => exact .inr ⟨⟨rfl, .inl (hd 9 rfl)⟩, rfl⟩
    | 11, _, _ => exact .inr ⟨⟨rfl, .inl (hd 9 rfl)⟩, rfl⟩
    | 12, _, _ => exact .inr ⟨⟨rfl, .inl (hd 9 rfl)⟩, rfl⟩
    | 13, _, _ => exact .inr ⟨⟨rfl, .inl (hd 9 rfl)⟩, rfl⟩
    | 14, _, _ => exact .inr ⟨⟨rfl, .inl (hd 9 rfl)⟩, rfl⟩
    | 15, _, _ => exact .inr ⟨⟨rfl, .inl (hd 9 rfl)⟩, rfl⟩
    | 16, _, _ => exact .inr ⟨⟨rfl, .inl (hd 9 rfl)⟩, rfl⟩
    | 17, _, _ => exact .inl ⟨rfl, ⟨_, op_pickT rfl (hd 9 rfl) rfl, rfl⟩⟩
    | qi + 18, h, _ => omega
  · intro vs X1 hb hv hal hne
    have HL0 := Hd.mk (HE.out.lt)
    have HBW := HB
    replace HB := Hd.mk (bel_then HB.out hb)
    replace HE : Hd (Env X1 []) := ⟨HE.out.to hb⟩
    have HLS := HL0
    have e34 : vs 34 = .bool true := hv 17 (by decide) rfl
    simp only [putAll, List.foldl_cons, List.foldl_nil, Act.put, List.setIfInBounds_toArray, List.set_cons_succ, List.set_cons_zero, List.drop_succ_cons, List.drop_zero, e34]
    generalize vs 17 = s17
    generalize vs 18 = s18
    generalize vs 19 = s19
    generalize vs 20 = s20
    generalize vs 21 = s21
    generalize vs 22 = s22
    generalize vs 23 = s23
    generalize vs 24 = s24
    generalize vs 25 = s25
    generalize vs 26 = s26
    generalize vs 27 = s27
    generalize vs 28 = s28
    generalize vs 29 = s29
    generalize vs 30 = s30
    generalize vs 31 = s31
    generalize vs 32 = s32
    generalize vs 33 = s33
    clear hv hal hne hb HL0 HBW HLS e34
    go_upto_region 2 with fail
    refine wp_region_vd 0 [] [] [] 84 [.int .i64 0, .int .i64 0] [] (by rfl) alloc_Z ?_ ?_
    · intro qi qh qA aa wx hb hs hd
      match qi, qh, qA with
      | qi + 0, h, _ => omega
    · intro vs X2 hb hv hal hne
      have HL0 := Hd.mk (HE.out.lt)
      have HBW := HB
      replace HB := Hd.mk (bel_then HB.out hb)
      replace HE : Hd (Env X2 []) := ⟨HE.out.to hb⟩
      have HLS := HL0
      simp only [putAll, List.foldl_cons, List.foldl_nil, Act.put, List.setIfInBounds_toArray, List.set_cons_succ, List.set_cons_zero, List.drop_succ_cons, List.drop_zero]
      clear hv hal hne hb HL0 HBW HLS
      go_wp2_with fail
      go_ret
      exact ⟨_, rfl, HB.out, rfl⟩
set_option maxRecDepth 100000 in
set_option maxHeartbeats 1000000 in
theorem SCells_a (Wd Ht : Int) (A : Option Addr) (k : Nat) (ms : List Mv) (w : World) (hrm : RdM w A ms) (hln : ms.length ≤ 9223372036854775807) (hs : sizeB Wd Ht = false) :
    Calls Try.prog 6 #[.int .i64 Wd, .int .i64 Ht, .slice A ms.length k] w (Got w (isV (.bool true)).p) := by
  have HRM := Hd.mk hrm
  have HS := Hd.mk hs
  clear hrm hs
  go_enter Try.func6, Try.ntmps6
  go_upto_region 1 with fail
  have HE : Hd (Env w []) := ⟨trivial⟩
  have HB : Hd (Below w.heap.size w w) := ⟨Below.refl _ _⟩
  refine wp_region_vd 8 [10, 11, 12, 13, 14, 9, 15, 16] [0, 1, 2, 5, 6, 7] [] 84 [.int .i64 0, .int .i64 0] [isV (.int .i64 Wd), isV (.int .i64 Ht), isV (.slice A ms.length k), isSs w.heap.size (ms.take 521), isP (isV (.slice none 0 0)) (isV (.int .i64 2)), isP (isV (.slice none 0 0)) (isV (.int .i64 2)), isV (.slice none 0 0), isV (.int .i64 2)] (by rfl) alloc_Z ?_ ?_
  · intro qi qh qA aa wx hb hs hd
    match qi, qh, qA with
    | 0, _, _ => exact .inl ⟨rfl, op_mv rfl (hs 0 rfl)⟩
    | 1, _, _ => exact .inl ⟨rfl, op_mv rfl (hs 1 rfl)⟩
    | 2, _, _ => exact .inl ⟨rfl, op_mv rfl (hs 2 rfl)⟩
    | 3, _, _ => exact .inl ⟨rfl, op_call1 rfl rfl Try.call30 (by rw [show aa.eval (.tmp 12) = .slice A ms.length k from hd 2 rfl]; exact (moves_got A k ms _ (HRM.out.to (bel_then HB.out hb)) hln).mono fun e w' ⟨v, h1, h2, h3⟩ => ⟨v, h1, h2, OwnS.lower (Nat.le_trans HB.out.size hb.size) h3⟩)⟩
    | 4, _, _ => exact .inl ⟨rfl, op_call3 rfl rfl Try.call29 (by obtain ⟨A', k', e, r, _⟩ := row_reads (hd 3 rfl); rw [show aa.eval (.tmp 10) = .int .i64 Wd from hd 0 rfl, show aa.eval (.tmp 11) = .int .i64 Ht from hd 1 rfl, show aa.eval (.tmp 13) = _ from e]; exact Cells_no Wd Ht A' k' (ms.take 521) _ r (by rw [List.length_take]; omega) (by rw [HS.out]; rfl))⟩
    | 5, _, _ => exact .inl ⟨rfl, op_mv rfl (hd 4 rfl)⟩
    | 6, _, _ => exact .inl ⟨rfl, op_fst rfl (hd 5 rfl)⟩
    | 7, _, _ => exact .inl ⟨rfl, op_snd rfl (hd 5 rfl)⟩
    | qi + 8, h, _ => omega
  · intro vs X1 hb hv hal hne
    have HL0 := Hd.mk (HE.out.lt)
    have HBW := HB
    replace HB := Hd.mk (bel_then HB.out hb)
    replace HE : Hd (Env X1 []) := ⟨HE.out.to hb⟩
    have HLS := HL0
    have e15 : vs 15 = .slice none 0 0 := hv 6 (by decide) rfl
    have e16 : vs 16 = .int .i64 2 := hv 7 (by decide) rfl
    simp only [putAll, List.foldl_cons, List.foldl_nil, Act.put, List.setIfInBounds_toArray, List.set_cons_succ, List.set_cons_zero, List.drop_succ_cons, List.drop_zero, e15, e16]
    generalize vs 10 = s10
    generalize vs 11 = s11
    generalize vs 12 = s12
    generalize vs 13 = s13
    generalize vs 14 = s14
    generalize vs 9 = s9
    clear hv hal hne hb HL0 HBW HLS e15 e16
    go_upto_region 2 with fail
    refine wp_region_vd 5 [17, 18, 19, 20, 21] [0, 1, 2, 4] [] 84 [.int .i64 0, .int .i64 0] [isV (.int .i64 Wd), isV (.int .i64 Ht), isV (.slice A ms.length k), isV (.bool false), isV (.bool true)] (by rfl) alloc_Z ?_ ?_
    · intro qi qh qA aa wx hb hs hd
      match qi, qh, qA with
      | 0, _, _ => exact .inl ⟨rfl, op_mv rfl (hs 0 rfl)⟩
      | 1, _, _ => exact .inl ⟨rfl, op_mv rfl (hs 1 rfl)⟩
      | 2, _, _ => exact .inl ⟨rfl, op_mv rfl (hs 2 rfl)⟩
      | 3, _, _ => exact .inl ⟨rfl, op_call3 rfl rfl Try.call31 (by rw [show aa.eval (.tmp 17) = .int .i64 Wd from (hd 0 rfl), show aa.eval (.tmp 18) = .int .i64 Ht from (hd 1 rfl), show aa.eval (.tmp 19) = .slice A ms.length k from (hd 2 rfl)]; exact rGroup_sz Wd Ht HS.out A k ms _)⟩
      | 4, _, _ => exact .inl ⟨rfl, ⟨_, op_not rfl (hd 3 rfl), rfl⟩⟩
      | qi + 5, h, _ => omega
    · intro vs X2 hb hv hal hne
      have HL0 := Hd.mk (HE.out.lt)
      have HBW := HB
      replace HB := Hd.mk (bel_then HB.out hb)
      replace HE : Hd (Env X2 []) := ⟨HE.out.to hb⟩
      have HLS := HL0
      have e21 : vs 21 = .bool true := hv 4 (by decide) rfl
      simp only [putAll, List.foldl_cons, List.foldl_nil, Act.put, List.setIfInBounds_toArray, List.set_cons_succ, List.set_cons_zero, List.drop_succ_cons, List.drop_zero, e21]
      generalize vs 17 = s17
      generalize vs 18 = s18
      generalize vs 19 = s19
      generalize vs 20 = s20
      clear hv hal hne hb HL0 HBW HLS e21
      go_upto_region 3 with fail
      refine wp_region_vd 10 [22, 23, 24, 25, 26, 27, 28, 29, 30, 31] [0, 2, 3, 4, 5, 6, 7, 9] [] 84 [.int .i64 0, .int .i64 0] [isV (.slice none 0 0), isV (.int .i64 (((0 : Nat) : Int))), isV (.bool true), isV (.bool true), isV (.int .i64 2), isV (.bool true), isV (.bool true), isV (.bool true), isV (.bool true), isV (.bool true)] (by rfl) alloc_Z ?_ ?_
      · intro qi qh qA aa wx hb hs hd
        match qi, qh, qA with
        | 0, _, _ => exact .inl ⟨rfl, op_mv rfl (hs 7 rfl)⟩
        | 1, _, _ => exact .inl ⟨rfl, op_len rfl rfl (hd 0 rfl)⟩
        | 2, _, _ => exact .inl ⟨rfl, pure_b (bool_eq (by decide)) (⟨_, op_eqlI rfl (hd 1 rfl) rfl, rfl⟩)⟩
        | 3, _, _ => exact .inl ⟨rfl, op_mv rfl (hd 2 rfl)⟩
        | 4, _, _ => exact .inl ⟨⟨rfl, .inl (hd 3 rfl)⟩, op_mv rfl (hs 8 rfl)⟩
        | 5, _, _ => exact .inl ⟨⟨rfl, .inl (hd 3 rfl)⟩, pure_b (bool_eq (by decide)) (⟨_, op_eqlE rfl (hd 4 rfl) rfl, rfl⟩)⟩
        | 6, _, _ => exact .inl ⟨rfl, ⟨_, op_pickT rfl (hd 3 rfl) (hd 5 rfl), rfl⟩⟩
        | 7, _, _ => exact .inl ⟨rfl, op_mv rfl (hd 6 rfl)⟩
        | 8, _, _ => exact .inl ⟨⟨rfl, .inl (hd 7 rfl)⟩, op_call0 rfl rfl Try.call18 (awake_got _)⟩
        | 9, _, _ => exact .inl ⟨rfl, ⟨_, op_pickT rfl (hd 7 rfl) (hd 8 rfl), rfl⟩⟩
        | qi + 10, h, _ => omega
      · intro vs X3 hb hv hal hne
        have HL0 := Hd.mk (HE.out.lt)
        have HBW := HB
        replace HB := Hd.mk (bel_then HB.out hb)
        replace HE : Hd (Env X3 []) := ⟨HE.out.to hb⟩
        have HLS := HL0
        have e31 : vs 31 = .bool true := hv 9 (by decide) rfl
        simp only [putAll, List.foldl_cons, List.foldl_nil, Act.put, List.setIfInBounds_toArray, List.set_cons_succ, List.set_cons_zero, List.drop_succ_cons, List.drop_zero, e31]
        generalize vs 22 = s22
        generalize vs 23 = s23
        generalize vs 24 = s24
        generalize vs 25 = s25
        generalize vs 26 = s26
        generalize vs 27 = s27
        generalize vs 28 = s28
        generalize vs 29 = s29
        generalize vs 30 = s30
        clear hv hal hne hb HL0 HBW HLS e31
        go_wp2_with fail
        go_ret
        exact ⟨_, rfl, HB.out, rfl⟩
set_option maxRecDepth 100000 in
set_option maxHeartbeats 1000000 in
theorem SCells_b (Wn Hn : Nat) (A : Option Addr) (k : Nat) (ms : List Mv) (w : World) (hrm : RdM w A ms) (hln : ms.length ≤ 9223372036854775807) (hs : sizeB Wn Hn = true) (hg : rGB Wn Hn ms = false) :
    Calls Try.prog 6 #[.int .i64 (((Wn : Nat) : Int)), .int .i64 (((Hn : Nat) : Int)), .slice A ms.length k] w (Got w (isV (.bool true)).p) := by
  have HRM := Hd.mk hrm
  have HS := Hd.mk hs
  have HG := Hd.mk hg
  clear hrm hs hg
  go_enter Try.func6, Try.ntmps6
  go_upto_region 1 with fail
  have HE : Hd (Env w []) := ⟨trivial⟩
  have HB : Hd (Below w.heap.size w w) := ⟨Below.refl _ _⟩
  refine wp_region_vd 8 [10, 11, 12, 13, 14, 9, 15, 16] [0, 1, 2, 5, 6, 7] [] 84 [.int .i64 0, .int .i64 0] [isV (.int .i64 (((Wn : Nat) : Int))), isV (.int .i64 (((Hn : Nat) : Int))), isV (.slice A ms.length k), isSs w.heap.size (ms.take 521), isP (isV (.slice none 0 0)) (isV (.int .i64 2)), isP (isV (.slice none 0 0)) (isV (.int .i64 2)), isV (.slice none 0 0), isV (.int .i64 2)] (by rfl) alloc_Z ?_ ?_
  · intro qi qh qA aa wx hb hs hd
    match qi, qh, qA with
    | 0, _, _ => exact .inl ⟨rfl, op_mv rfl (hs 0 rfl)⟩
    | 1, _, _ => exact .inl ⟨rfl, op_mv rfl (hs 1 rfl)⟩
    | 2, _, _ => exact .inl ⟨rfl, op_mv rfl (hs 2 rfl)⟩
    | 3, _, _ => exact .inl ⟨rfl, op_call1 rfl rfl Try.call30 (by rw [show aa.eval (.tmp 12) = .slice A ms.length k from hd 2 rfl]; exact (moves_got A k ms _ (HRM.out.to (bel_then HB.out hb)) hln).mono fun e w' ⟨v, h1, h2, h3⟩ => ⟨v, h1, h2, OwnS.lower (Nat.le_trans HB.out.size hb.size) h3⟩)⟩
    | 4, _, _ => exact .inl ⟨rfl, op_call3 rfl rfl Try.call29 (by obtain ⟨A', k', e, r, _⟩ := row_reads (hd 3 rfl); rw [show aa.eval (.tmp 10) = .int .i64 ((Wn : Nat) : Int) from hd 0 rfl, show aa.eval (.tmp 11) = .int .i64 ((Hn : Nat) : Int) from hd 1 rfl, show aa.eval (.tmp 13) = _ from e]; exact Cells_no Wn Hn A' k' (ms.take 521) _ r (by rw [List.length_take]; omega) (by rw [group_same HS.out, HG.out, HS.out]; rfl))⟩
    | 5, _, _ => exact .inl ⟨rfl, op_mv rfl (hd 4 rfl)⟩
    | 6, _, _ => exact .inl ⟨rfl, op_fst rfl (hd 5 rfl)⟩
    | 7, _, _ => exact .inl ⟨rfl, op_snd rfl (hd 5 rfl)⟩
    | qi + 8, h, _ => omega
  · intro vs X1 hb hv hal hne
    have HL0 := Hd.mk (HE.out.lt)
    have HBW := HB
    replace HB := Hd.mk (bel_then HB.out hb)
    replace HE : Hd (Env X1 []) := ⟨HE.out.to hb⟩
    have HLS := HL0
    have e15 : vs 15 = .slice none 0 0 := hv 6 (by decide) rfl
    have e16 : vs 16 = .int .i64 2 := hv 7 (by decide) rfl
    simp only [putAll, List.foldl_cons, List.foldl_nil, Act.put, List.setIfInBounds_toArray, List.set_cons_succ, List.set_cons_zero, List.drop_succ_cons, List.drop_zero, e15, e16]
    generalize vs 10 = s10
    generalize vs 11 = s11
    generalize vs 12 = s12
    generalize vs 13 = s13
    generalize vs 14 = s14
    generalize vs 9 = s9
    clear hv hal hne hb HL0 HBW HLS e15 e16
    go_upto_region 2 with fail
    refine wp_region_vd 5 [17, 18, 19, 20, 21] [0, 1, 2, 4] [] 84 [.int .i64 0, .int .i64 0] [isV (.int .i64 (((Wn : Nat) : Int))), isV (.int .i64 (((Hn : Nat) : Int))), isV (.slice A ms.length k), isV (.bool false), isV (.bool true)] (by rfl) alloc_Z ?_ ?_
    · intro qi qh qA aa wx hb hs hd
      match qi, qh, qA with
      | 0, _, _ => exact .inl ⟨rfl, op_mv rfl (hs 0 rfl)⟩
      | 1, _, _ => exact .inl ⟨rfl, op_mv rfl (hs 1 rfl)⟩
      | 2, _, _ => exact .inl ⟨rfl, op_mv rfl (hs 2 rfl)⟩
      | 3, _, _ => exact .inl ⟨rfl, wp_b (bool_eq HG.out) (op_call3 rfl rfl Try.call31 (by rw [show aa.eval (.tmp 17) = .int .i64 (((Wn : Nat) : Int)) from (hd 0 rfl), show aa.eval (.tmp 18) = .int .i64 (((Hn : Nat) : Int)) from (hd 1 rfl), show aa.eval (.tmp 19) = .slice A ms.length k from (hd 2 rfl)]; exact rGroup_got Wn Hn A k ms _ (HRM.out.to (bel_then HB.out hb)) hln HS.out))⟩
      | 4, _, _ => exact .inl ⟨rfl, ⟨_, op_not rfl (hd 3 rfl), rfl⟩⟩
      | qi + 5, h, _ => omega
    · intro vs X2 hb hv hal hne
      have HL0 := Hd.mk (HE.out.lt)
      have HBW := HB
      replace HB := Hd.mk (bel_then HB.out hb)
      replace HE : Hd (Env X2 []) := ⟨HE.out.to hb⟩
      have HLS := HL0
      have e21 : vs 21 = .bool true := hv 4 (by decide) rfl
      simp only [putAll, List.foldl_cons, List.foldl_nil, Act.put, List.setIfInBounds_toArray, List.set_cons_succ, List.set_cons_zero, List.drop_succ_cons, List.drop_zero, e21]
      generalize vs 17 = s17
      generalize vs 18 = s18
      generalize vs 19 = s19
      generalize vs 20 = s20
      clear hv hal hne hb HL0 HBW HLS e21
      go_upto_region 3 with fail
      refine wp_region_vd 10 [22, 23, 24, 25, 26, 27, 28, 29, 30, 31] [0, 2, 3, 4, 5, 6, 7, 9] [] 84 [.int .i64 0, .int .i64 0] [isV (.slice none 0 0), isV (.int .i64 (((0 : Nat) : Int))), isV (.bool true), isV (.bool true), isV (.int .i64 2), isV (.bool true), isV (.bool true), isV (.bool true), isV (.bool true), isV (.bool true)] (by rfl) alloc_Z ?_ ?_
      · intro qi qh qA aa wx hb hs hd
        match qi, qh, qA with
        | 0, _, _ => exact .inl ⟨rfl, op_mv rfl (hs 7 rfl)⟩
        | 1, _, _ => exact .inl ⟨rfl, op_len rfl rfl (hd 0 rfl)⟩
        | 2, _, _ => exact .inl ⟨rfl, pure_b (bool_eq (by decide)) (⟨_, op_eqlI rfl (hd 1 rfl) rfl, rfl⟩)⟩
        | 3, _, _ => exact .inl ⟨rfl, op_mv rfl (hd 2 rfl)⟩
        | 4, _, _ => exact .inl ⟨⟨rfl, .inl (hd 3 rfl)⟩, op_mv rfl (hs 8 rfl)⟩
        | 5, _, _ => exact .inl ⟨⟨rfl, .inl (hd 3 rfl)⟩, pure_b (bool_eq (by decide)) (⟨_, op_eqlE rfl (hd 4 rfl) rfl, rfl⟩)⟩
        | 6, _, _ => exact .inl ⟨rfl, ⟨_, op_pickT rfl (hd 3 rfl) (hd 5 rfl), rfl⟩⟩
        | 7, _, _ => exact .inl ⟨rfl, op_mv rfl (hd 6 rfl)⟩
        | 8, _, _ => exact .inl ⟨⟨rfl, .inl (hd 7 rfl)⟩, op_call0 rfl rfl Try.call18 (awake_got _)⟩
        | 9, _, _ => exact .inl ⟨rfl, ⟨_, op_pickT rfl (hd 7 rfl) (hd 8 rfl), rfl⟩⟩
        | qi + 10, h, _ => omega
      · intro vs X3 hb hv hal hne
        have HL0 := Hd.mk (HE.out.lt)
        have HBW := HB
        replace HB := Hd.mk (bel_then HB.out hb)
        replace HE : Hd (Env X3 []) := ⟨HE.out.to hb⟩
        have HLS := HL0
        have e31 : vs 31 = .bool true := hv 9 (by decide) rfl
        simp only [putAll, List.foldl_cons, List.foldl_nil, Act.put, List.setIfInBounds_toArray, List.set_cons_succ, List.set_cons_zero, List.drop_succ_cons, List.drop_zero, e31]
        generalize vs 22 = s22
        generalize vs 23 = s23
        generalize vs 24 = s24
        generalize vs 25 = s25
        generalize vs 26 = s26
        generalize vs 27 = s27
        generalize vs 28 = s28
        generalize vs 29 = s29
        generalize vs 30 = s30
        clear hv hal hne hb HL0 HBW HLS e31
        go_wp2_with fail
        go_ret
        exact ⟨_, rfl, HB.out, rfl⟩
set_option maxRecDepth 100000 in
set_option maxHeartbeats 1000000 in
theorem SCells_y (Wn Hn : Nat) (A : Option Addr) (k : Nat) (ms : List Mv) (w : World) (hrm : RdM w A ms) (hln : ms.length ≤ 9223372036854775807) (hs : sizeB Wn Hn = true) (hg : rGB Wn Hn ms = true) :
    Calls Try.prog 6 #[.int .i64 (((Wn : Nat) : Int)), .int .i64 (((Hn : Nat) : Int)), .slice A ms.length k] w (Got w (isV (.bool true)).p) := by
  have HRM := Hd.mk hrm
  have HR := ((rGB_iff Wn Hn ms).1 hg)
  have h512 := rG_few HR hs
  have HTK := Hd.mk (List.take_of_length_le (show ms.length ≤ 521 by omega))
  have HGT : Hd (gB Wn Hn ms = true) := ⟨by have z := group_same hs ms; rw [HTK.out, hg] at z; exact z⟩
  have HALL : Hd (∀ i, i < ms.length → Al Wn Hn (nthM ms i)) := ⟨fun i hi => al_of (f := (nthM ms i).f) hs (HR.fit i hi)⟩
  have HCL : Hd ((cellsK Wn Hn ms ((Wn : Int) * (Hn : Int)).toNat).length ≤ 1000000) := ⟨by rw [cellsK_length]; have hwh := sizeB_bounds hs; have hmb := mul_small (a := (Wn : Int)) (b := (Hn : Int)) (by omega) (by omega); omega⟩
  have HS := Hd.mk hs
  have HG := Hd.mk hg
  clear hrm hs hg HR
  go_enter Try.func6, Try.ntmps6
  go_upto_region 1 with fail
  have HE : Hd (Env w []) := ⟨trivial⟩
  have HB : Hd (Below w.heap.size w w) := ⟨Below.refl _ _⟩
  refine wp_region_vd 8 [10, 11, 12, 13, 14, 9, 15, 16] [0, 1, 2, 5, 6, 7] [] 84 [.int .i64 0, .int .i64 0] [isV (.int .i64 (((Wn : Nat) : Int))), isV (.int .i64 (((Hn : Nat) : Int))), isV (.slice A ms.length k), isSs w.heap.size (ms.take 521), isP (isIs w.heap.size (cellsK Wn Hn ms ((Wn : Int) * (Hn : Int)).toNat)) (isV (.int .i64 0)), isP (isIs w.heap.size (cellsK Wn Hn ms ((Wn : Int) * (Hn : Int)).toNat)) (isV (.int .i64 0)), isIs w.heap.size (cellsK Wn Hn ms ((Wn : Int) * (Hn : Int)).toNat), isV (.int .i64 0)] (by rfl) alloc_Z ?_ ?_
  · intro qi qh qA aa wx hb hs hd
    match qi, qh, qA with
    | 0, _, _ => exact .inl ⟨rfl, op_mv rfl (hs 0 rfl)⟩
    | 1, _, _ => exact .inl ⟨rfl, op_mv rfl (hs 1 rfl)⟩
    | 2, _, _ => exact .inl ⟨rfl, op_mv rfl (hs 2 rfl)⟩
    | 3, _, _ => exact .inl ⟨rfl, op_call1 rfl rfl Try.call30 (by rw [show aa.eval (.tmp 12) = .slice A ms.length k from hd 2 rfl]; exact (moves_got A k ms _ (HRM.out.to (bel_then HB.out hb)) hln).mono fun e w' ⟨v, h1, h2, h3⟩ => ⟨v, h1, h2, OwnS.lower (Nat.le_trans HB.out.size hb.size) h3⟩)⟩
    | 4, _, _ => exact .inl ⟨rfl, op_call3 rfl rfl Try.call29 (by obtain ⟨A', k', e, r, _⟩ := row_reads (hd 3 rfl); rw [show aa.eval (.tmp 10) = .int .i64 ((Wn : Nat) : Int) from hd 0 rfl, show aa.eval (.tmp 11) = .int .i64 ((Hn : Nat) : Int) from hd 1 rfl, show aa.eval (.tmp 13) = _ from e]; exact got_is (Nat.le_trans HB.out.size hb.size) (by rw [HTK.out] at r ⊢; exact Cells_ok Wn Hn A' k' ms _ r (by omega) HS.out HGT.out))⟩
    | 5, _, _ => exact .inl ⟨rfl, op_mv rfl (hd 4 rfl)⟩
    | 6, _, _ => exact .inl ⟨rfl, op_fst rfl (hd 5 rfl)⟩
    | 7, _, _ => exact .inl ⟨rfl, op_snd rfl (hd 5 rfl)⟩
    | qi + 8, h, _ => omega
  · intro vs X1 hb hv hal hne
    have HL0 := Hd.mk (HE.out.lt)
    have HBW := HB
    replace HB := Hd.mk (bel_then HB.out hb)
    replace HE : Hd (Env X1 []) := ⟨HE.out.to hb⟩
    have HLS := HL0
    have HO : Hd (OwnI w.heap.size X1 (vs 15) (cellsK Wn Hn ms ((Wn : Int) * (Hn : Int)).toNat)) := ⟨hv 6 (by decide) rfl⟩
    obtain ⟨A15, k15, e15⟩ := own_lenI HO.out
    rw [e15] at HO
    have e16 : vs 16 = .int .i64 0 := hv 7 (by decide) rfl
    simp only [putAll, List.foldl_cons, List.foldl_nil, Act.put, List.setIfInBounds_toArray, List.set_cons_succ, List.set_cons_zero, List.drop_succ_cons, List.drop_zero, e15, e16]
    generalize vs 10 = s10
    generalize vs 11 = s11
    generalize vs 12 = s12
    generalize vs 13 = s13
    generalize vs 14 = s14
    generalize vs 9 = s9
    clear hv hal hne hb HL0 HBW HLS e15 e16
    go_upto_region 2 with fail
    refine wp_region_vd 5 [17, 18, 19, 20, 21] [0, 1, 2, 4] [] 84 [.int .i64 0, .int .i64 0] [isV (.int .i64 (((Wn : Nat) : Int))), isV (.int .i64 (((Hn : Nat) : Int))), isV (.slice A ms.length k), isV (.bool true), isV (.bool false)] (by rfl) alloc_Z ?_ ?_
    · intro qi qh qA aa wx hb hs hd
      match qi, qh, qA with
      | 0, _, _ => exact .inl ⟨rfl, op_mv rfl (hs 0 rfl)⟩
      | 1, _, _ => exact .inl ⟨rfl, op_mv rfl (hs 1 rfl)⟩
      | 2, _, _ => exact .inl ⟨rfl, op_mv rfl (hs 2 rfl)⟩
      | 3, _, _ => exact .inl ⟨rfl, wp_b (bool_eq HG.out) (op_call3 rfl rfl Try.call31 (by rw [show aa.eval (.tmp 17) = .int .i64 (((Wn : Nat) : Int)) from (hd 0 rfl), show aa.eval (.tmp 18) = .int .i64 (((Hn : Nat) : Int)) from (hd 1 rfl), show aa.eval (.tmp 19) = .slice A ms.length k from (hd 2 rfl)]; exact rGroup_got Wn Hn A k ms _ (HRM.out.to (bel_then HB.out hb)) hln HS.out))⟩
      | 4, _, _ => exact .inl ⟨rfl, ⟨_, op_not rfl (hd 3 rfl), rfl⟩⟩
      | qi + 5, h, _ => omega
    · intro vs X2 hb hv hal hne
      have HL0 := Hd.mk (HE.out.lt)
      have HBW := HB
      replace HB := Hd.mk (bel_then HB.out hb)
      replace HE : Hd (Env X2 []) := ⟨HE.out.to hb⟩
      have HLS := HL0
      have HOL := Hd.mk HO.out.lt
      replace HO := Hd.mk (HO.out.to hb)
      have e21 : vs 21 = .bool false := hv 4 (by decide) rfl
      simp only [putAll, List.foldl_cons, List.foldl_nil, Act.put, List.setIfInBounds_toArray, List.set_cons_succ, List.set_cons_zero, List.drop_succ_cons, List.drop_zero, e21]
      generalize vs 17 = s17
      generalize vs 18 = s18
      generalize vs 19 = s19
      generalize vs 20 = s20
      clear hv hal hne hb HL0 HBW HLS e21 HOL
      go_upto_region 4 with fail
      refine wp_region_vd 13 [32, 33, 34, 35, 36, 37, 38, 39, 40, 41, 42, 43, 44] [0, 1, 2, 3, 6, 7, 8, 9, 10, 12] [] 84 [.int .i64 0, .int .i64 0] [isV (.slice A15 ((cellsK Wn Hn ms ((Wn : Int) * (Hn : Int)).toNat).length) k15), isV (.int .i64 (((Wn : Nat) : Int))), isV (.int .i64 (((Hn : Nat) : Int))), isV (.slice A ms.length k), isF X2.heap.size (cellsK Wn Hn ms ((Wn : Int) * (Hn : Int)).toNat), isV (.bool true), isV (.bool true), isV (.int .i64 0), isV (.bool true), isV (.bool true), isV (.bool true), isV (.bool true), isV (.bool true)] (by rfl) alloc_Z ?_ ?_
      · intro qi qh qA aa wx hb hs hd
        match qi, qh, qA with
        | 0, _, _ => exact .inl ⟨rfl, op_mv rfl (hs 7 rfl)⟩
        | 1, _, _ => exact .inl ⟨rfl, op_mv rfl (hs 0 rfl)⟩
        | 2, _, _ => exact .inl ⟨rfl, op_mv rfl (hs 1 rfl)⟩
        | 3, _, _ => exact .inl ⟨rfl, op_mv rfl (hs 2 rfl)⟩
        | 4, _, _ => exact .inl ⟨rfl, op_call3 rfl rfl Try.call33 (by rw [show aa.eval (.tmp 33) = .int .i64 (((Wn : Nat) : Int)) from (hd 1 rfl), show aa.eval (.tmp 34) = .int .i64 (((Hn : Nat) : Int)) from (hd 2 rfl), show aa.eval (.tmp 35) = .slice A ms.length k from (hd 3 rfl)]; exact got_isF hb.size (rCells_got Wn Hn A k ms _ (HRM.out.to (bel_then HB.out hb)) hln HS.out HALL.out))⟩
        | 5, _, _ => exact .inl ⟨rfl, op_call2 rfl rfl Try.call32 (by obtain ⟨g, k9, rest, e, _, _, _, bb⟩ := (hd 4 rfl); rw [show aa.eval (.tmp 32) = .slice A15 ((cellsK Wn Hn ms ((Wn : Int) * (Hn : Int)).toNat).length) k15 from (hd 0 rfl), show aa.eval (.tmp 36) = _ from e]; exact equal_same (ownI_ri (HO.out.to hb)) bb.ri HCL.out)⟩
        | 6, _, _ => exact .inl ⟨rfl, op_mv rfl (hd 5 rfl)⟩
        | 7, _, _ => exact .inl ⟨⟨rfl, .inl (hd 6 rfl)⟩, op_mv rfl (hs 8 rfl)⟩
        | 8, _, _ => exact .inl ⟨⟨rfl, .inl (hd 6 rfl)⟩, pure_b (bool_eq (by decide)) (⟨_, op_eqlE rfl (hd 7 rfl) rfl, rfl⟩)⟩
        | 9, _, _ => exact .inl ⟨rfl, ⟨_, op_pickT rfl (hd 6 rfl) (hd 8 rfl), rfl⟩⟩
        | 10, _, _ => exact .inl ⟨rfl, op_mv rfl (hd 9 rfl)⟩
        | 11, _, _ => exact .inl ⟨⟨rfl, .inl (hd 10 rfl)⟩, op_call0 rfl rfl Try.call18 (awake_got _)⟩
        | 12, _, _ => exact .inl ⟨rfl, ⟨_, op_pickT rfl (hd 10 rfl) (hd 11 rfl), rfl⟩⟩
        | qi + 13, h, _ => omega
      · intro vs X3 hb hv hal hne
        have HL0 := Hd.mk (HE.out.lt)
        have HBW := HB
        replace HB := Hd.mk (bel_then HB.out hb)
        replace HE : Hd (Env X3 []) := ⟨HE.out.to hb⟩
        have HLS := HL0
        have HOL := Hd.mk HO.out.lt
        replace HO := Hd.mk (HO.out.to hb)
        have e44 : vs 44 = .bool true := hv 12 (by decide) rfl
        simp only [putAll, List.foldl_cons, List.foldl_nil, Act.put, List.setIfInBounds_toArray, List.set_cons_succ, List.set_cons_zero, List.drop_succ_cons, List.drop_zero, e44]
        generalize vs 32 = s32
        generalize vs 33 = s33
        generalize vs 34 = s34
        generalize vs 35 = s35
        generalize vs 36 = s36
        generalize vs 37 = s37
        generalize vs 38 = s38
        generalize vs 39 = s39
        generalize vs 40 = s40
        generalize vs 41 = s41
        generalize vs 42 = s42
        generalize vs 43 = s43
        clear hv hal hne hb HL0 HBW HLS e44 HOL
        go_wp2_with fail
        go_ret
        exact ⟨_, rfl, HB.out, rfl⟩
end Go.Proofs.Ytddbmckbankmeaa
