/- Part 9 of the texts behind this claim. -/
import Derived.Test.YtddbmckbankmeaaKt8
set_option linter.unusedVariables false
set_option linter.unusedSimpArgs false
namespace Go.Proofs.Ytddbmckbankmeaa
open Go.RowKit
def cmpI (x y : Int) : Int := if x < y then -1 else if y < x then 1 else 0
def orL : List Int → Int
  | [] => 0
  | x :: xs => if x = 0 then orL xs else x
theorem orL_drop : ∀ (xs : List Int) (j : Nat), (∀ i : Nat, i < j → xs.getD i 0 = 0) → orL xs = orL (xs.drop j)
  | xs, 0, _ => rfl
  | [], j + 1, _ => rfl
  | x :: xs, j + 1, h => by
    have h0 : x = 0 := by simpa using h 0 (by omega)
    rw [List.drop_succ_cons, ← orL_drop xs j (fun i hi => by simpa using h (i + 1) (by omega)), orL, if_pos h0]
theorem orL_hit (xs : List Int) (j : Nat) (h : ∀ i : Nat, i < j → xs.getD i 0 = 0) (hj : j < xs.length) (hne : xs.getD j 0 ≠ 0) : orL xs = xs.getD j 0 := by
  rw [orL_drop xs j h, List.drop_eq_getElem_cons hj, orL]
  rw [List.getD_eq_getElem?_getD, List.getElem?_eq_getElem hj] at hne ⊢
  exact if_neg hne
theorem orL_none (xs : List Int) (h : ∀ i : Nat, i < xs.length → xs.getD i 0 = 0) : orL xs = 0 := by
  rw [orL_drop xs xs.length h, List.drop_length]
  rfl
theorem bne_of {b c : Bool} (h : ¬ b = c) : (b != c) = true := by cases b <;> cases c <;> simp_all
def ordM (a b : Mv) : Int := orL [if a.f = b.f then 0 else if a.f = true then 1 else -1, cmpI a.t b.t, cmpI a.x b.x, cmpI a.y b.y]
section
variable {o : Oper} {a : Act} {w : World} {d : Nat} {Q : Exit → Act → World → Prop} {x1 x2 x3 x4 : Operand} {n1 n2 n3 n4 : Int}
theorem op_lit4 (ho : o.op = .buildSlice 22 4 #[(0, x1), (1, x2), (2, x3), (3, x4)]) (hd : o.dst = some d) (h1 : a.eval x1 = .int .i64 n1) (h2 : a.eval x2 = .int .i64 n2) (h3 : a.eval x3 = .int .i64 n3) (h4 : a.eval x4 = .int .i64 n4) (lo : Nat) (hl : lo ≤ w.heap.size) :
    o.wp Try.prog a w (Post a w d (isF lo [n1, n2, n3, n4]).p) Q := by
  have key : (execOp a.eval o).run Try.prog w = .ok (.value (.slice (some ⟨w.heap.size, 0, none⟩) 4 4)) (w.alloc (.cells (ints [n1, n2, n3, n4]).toArray 3)) := by
    generalize a.eval = ev at h1 h2 h3 h4 ⊢
    unfold execOp
    simp only [ho]
    simp [go_sem, ints, h1, h2, h3, h4]
  unfold Oper.wp
  rw [key]
  simp only [Oper.upon, hd]
  exact ⟨_, rfl, below_alloc (Below.refl _ _) _, w.heap.size, 4, [], rfl, hl, by simp, by omega, by rw [List.append_nil]; exact heap_alloc_new w _⟩
end
set_option maxRecDepth 100000 in
set_option maxHeartbeats 1000000 in
theorem isNaN_got (x : Int) (w : World) :
    Calls Try.prog 107 #[.int .i64 x] w (Got w (isV (.bool false)).p) := by
  go_enter Try.func107, Try.ntmps107
  go_upto_region 1 with fail
  have HE : Hd (Env w []) := ⟨trivial⟩
  have HB : Hd (Below w.heap.size w w) := ⟨Below.refl _ _⟩
  refine wp_region_vd 3 [3, 4, 5] [0, 1, 2] [] 84 [.int .i64 0, .int .i64 0] [isV (.int .i64 x), isV (.int .i64 x), isV (.bool false)] (by rfl) alloc_Z ?_ ?_
  · intro qi qh qA aa wx hb hs hd
    match qi, qh, qA with
    | 0, _, _ => exact .inl ⟨rfl, op_mv rfl (hs 0 rfl)⟩
    | 1, _, _ => exact .inl ⟨rfl, op_mv rfl (hs 0 rfl)⟩
    | 2, _, _ => exact .inl ⟨rfl, pure_b (bool_eq (by simp)) (⟨_, op_neqI rfl (hd 0 rfl) (hd 1 rfl), rfl⟩)⟩
    | qi + 3, h, _ => omega
  · intro vs X1 hb hv hal hne
    have HL0 := Hd.mk (HE.out.lt)
    have HBW := HB
    replace HB := Hd.mk (bel_then HB.out hb)
    replace HE : Hd (Env X1 []) := ⟨HE.out.to hb⟩
    have HLS := HL0
    have e5 : vs 5 = .bool false := hv 2 (by decide) rfl
    simp only [putAll, List.foldl_cons, List.foldl_nil, Act.put, List.setIfInBounds_toArray, List.set_cons_succ, List.set_cons_zero, List.drop_succ_cons, List.drop_zero, e5]
    generalize vs 3 = s3
    generalize vs 4 = s4
    clear hv hal hne hb HL0 HBW HLS e5
    go_wp2_with fail
    go_ret
    exact ⟨_, rfl, HB.out, rfl⟩
set_option maxRecDepth 100000 in
set_option maxHeartbeats 1000000 in
theorem Compare_got (x y : Int) (w : World) :
    Calls Try.prog 93 #[.int .i64 x, .int .i64 y] w (Got w (isV (.int .i64 (cmpI x y))).p) := by
  by_cases h1 : x < y
  · have e : cmpI x y = -1 := if_pos h1
    rw [e]
    clear e
    go_enter Try.func93, Try.ntmps93
    go_upto_region 1 with fail
    have HE : Hd (Env w []) := ⟨trivial⟩
    have HB : Hd (Below w.heap.size w w) := ⟨Below.refl _ _⟩
    refine wp_region_vd 2 [7, 8] [0] [] 84 [.int .i64 0, .int .i64 0] [isV (.int .i64 x), isV (.bool false)] (by rfl) alloc_Z ?_ ?_
    · intro qi qh qA aa wx hb hs hd
      match qi, qh, qA with
      | 0, _, _ => exact .inl ⟨rfl, op_mv rfl (hs 0 rfl)⟩
      | 1, _, _ => exact .inl ⟨rfl, op_call1 rfl rfl Try.call107 (by rw [(show aa.eval (.tmp 7) = .int .i64 x from (hd 0 rfl))]; exact isNaN_got x _)⟩
      | qi + 2, h, _ => omega
    · intro vs X1 hb hv hal hne
      have HL0 := Hd.mk (HE.out.lt)
      have HBW := HB
      replace HB := Hd.mk (bel_then HB.out hb)
      replace HE : Hd (Env X1 []) := ⟨HE.out.to hb⟩
      have HLS := HL0
      have e8 : vs 8 = .bool false := hv 1 (by decide) rfl
      simp only [putAll, List.foldl_cons, List.foldl_nil, Act.put, List.setIfInBounds_toArray, List.set_cons_succ, List.set_cons_zero, List.drop_succ_cons, List.drop_zero, e8]
      generalize vs 7 = s7
      clear hv hal hne hb HL0 HBW HLS e8
      go_upto_region 2 with fail
      refine wp_region_vd 2 [9, 10] [0] [] 84 [.int .i64 0, .int .i64 0] [isV (.int .i64 y), isV (.bool false)] (by rfl) alloc_Z ?_ ?_
      · intro qi qh qA aa wx hb hs hd
        match qi, qh, qA with
        | 0, _, _ => exact .inl ⟨rfl, op_mv rfl (hs 1 rfl)⟩
        | 1, _, _ => exact .inl ⟨rfl, op_call1 rfl rfl Try.call107 (by rw [(show aa.eval (.tmp 9) = .int .i64 y from (hd 0 rfl))]; exact isNaN_got y _)⟩
        | qi + 2, h, _ => omega
      · intro vs X2 hb hv hal hne
        have HL0 := Hd.mk (HE.out.lt)
        have HBW := HB
        replace HB := Hd.mk (bel_then HB.out hb)
        replace HE : Hd (Env X2 []) := ⟨HE.out.to hb⟩
        have HLS := HL0
        have e10 : vs 10 = .bool false := hv 1 (by decide) rfl
        simp only [putAll, List.foldl_cons, List.foldl_nil, Act.put, List.setIfInBounds_toArray, List.set_cons_succ, List.set_cons_zero, List.drop_succ_cons, List.drop_zero, e10]
        generalize vs 9 = s9
        clear hv hal hne hb HL0 HBW HLS e10
        go_upto_region 3 with fail
        refine wp_region_vd 1 [11] [0] [] 84 [.int .i64 0, .int .i64 0] [isV (.bool false)] (by rfl) alloc_Z ?_ ?_
        · intro qi qh qA aa wx hb hs hd
          match qi, qh, qA with
          | 0, _, _ => exact .inl ⟨rfl, op_mv rfl (hs 5 rfl)⟩
          | qi + 1, h, _ => omega
        · intro vs X3 hb hv hal hne
          have HL0 := Hd.mk (HE.out.lt)
          have HBW := HB
          replace HB := Hd.mk (bel_then HB.out hb)
          replace HE : Hd (Env X3 []) := ⟨HE.out.to hb⟩
          have HLS := HL0
          have e11 : vs 11 = .bool false := hv 0 (by decide) rfl
          simp only [putAll, List.foldl_cons, List.foldl_nil, Act.put, List.setIfInBounds_toArray, List.set_cons_succ, List.set_cons_zero, List.drop_succ_cons, List.drop_zero, e11]
          clear hv hal hne hb HL0 HBW HLS e11
          go_upto_region 7 with fail
          refine wp_region_vd 1 [13] [0] [] 84 [.int .i64 0, .int .i64 0] [isV (.bool false)] (by rfl) alloc_Z ?_ ?_
          · intro qi qh qA aa wx hb hs hd
            match qi, qh, qA with
            | 0, _, _ => exact .inl ⟨rfl, op_mv rfl (hs 6 rfl)⟩
            | qi + 1, h, _ => omega
          · intro vs X4 hb hv hal hne
            have HL0 := Hd.mk (HE.out.lt)
            have HBW := HB
            replace HB := Hd.mk (bel_then HB.out hb)
            replace HE : Hd (Env X4 []) := ⟨HE.out.to hb⟩
            have HLS := HL0
            have e13 : vs 13 = .bool false := hv 0 (by decide) rfl
            simp only [putAll, List.foldl_cons, List.foldl_nil, Act.put, List.setIfInBounds_toArray, List.set_cons_succ, List.set_cons_zero, List.drop_succ_cons, List.drop_zero, e13]
            clear hv hal hne hb HL0 HBW HLS e13
            go_upto_region 9 with fail
            refine wp_region_vd 3 [14, 15, 16] [0, 1, 2] [] 84 [.int .i64 0, .int .i64 0] [isV (.int .i64 x), isV (.int .i64 y), isV (.bool true)] (by rfl) alloc_Z ?_ ?_
            · intro qi qh qA aa wx hb hs hd
              match qi, qh, qA with
              | 0, _, _ => exact .inl ⟨rfl, op_mv rfl (hs 0 rfl)⟩
              | 1, _, _ => exact .inl ⟨rfl, op_mv rfl (hs 1 rfl)⟩
              | 2, _, _ => exact .inl ⟨rfl, pure_b (bool_eq (decide_eq_true h1)) (⟨_, op_lssI rfl (hd 0 rfl) (hd 1 rfl), rfl⟩)⟩
              | qi + 3, h, _ => omega
            · intro vs X5 hb hv hal hne
              have HL0 := Hd.mk (HE.out.lt)
              have HBW := HB
              replace HB := Hd.mk (bel_then HB.out hb)
              replace HE : Hd (Env X5 []) := ⟨HE.out.to hb⟩
              have HLS := HL0
              have e16 : vs 16 = .bool true := hv 2 (by decide) rfl
              simp only [putAll, List.foldl_cons, List.foldl_nil, Act.put, List.setIfInBounds_toArray, List.set_cons_succ, List.set_cons_zero, List.drop_succ_cons, List.drop_zero, e16]
              generalize vs 14 = s14
              generalize vs 15 = s15
              clear hv hal hne hb HL0 HBW HLS e16
              go_wp2_with fail
              go_ret
              exact ⟨_, rfl, HB.out, rfl⟩
  · by_cases h2 : y < x
    · have e : cmpI x y = 1 := by unfold cmpI; rw [if_neg h1, if_pos h2]
      rw [e]
      clear e
      go_enter Try.func93, Try.ntmps93
      go_upto_region 1 with fail
      have HE : Hd (Env w []) := ⟨trivial⟩
      have HB : Hd (Below w.heap.size w w) := ⟨Below.refl _ _⟩
      refine wp_region_vd 2 [7, 8] [0] [] 84 [.int .i64 0, .int .i64 0] [isV (.int .i64 x), isV (.bool false)] (by rfl) alloc_Z ?_ ?_
      · intro qi qh qA aa wx hb hs hd
        match qi, qh, qA with
        | 0, _, _ => exact .inl ⟨rfl, op_mv rfl (hs 0 rfl)⟩
        | 1, _, _ => exact .inl ⟨rfl, op_call1 rfl rfl Try.call107 (by rw [(show aa.eval (.tmp 7) = .int .i64 x from (hd 0 rfl))]; exact isNaN_got x _)⟩
        | qi + 2, h, _ => omega
      · intro vs X1 hb hv hal hne
        have HL0 := Hd.mk (HE.out.lt)
        have HBW := HB
        replace HB := Hd.mk (bel_then HB.out hb)
        replace HE : Hd (Env X1 []) := ⟨HE.out.to hb⟩
        have HLS := HL0
        have e8 : vs 8 = .bool false := hv 1 (by decide) rfl
        simp only [putAll, List.foldl_cons, List.foldl_nil, Act.put, List.setIfInBounds_toArray, List.set_cons_succ, List.set_cons_zero, List.drop_succ_cons, List.drop_zero, e8]
        generalize vs 7 = s7
        clear hv hal hne hb HL0 HBW HLS e8
        go_upto_region 2 with fail
        refine wp_region_vd 2 [9, 10] [0] [] 84 [.int .i64 0, .int .i64 0] [isV (.int .i64 y), isV (.bool false)] (by rfl) alloc_Z ?_ ?_
        · intro qi qh qA aa wx hb hs hd
          match qi, qh, qA with
          | 0, _, _ => exact .inl ⟨rfl, op_mv rfl (hs 1 rfl)⟩
          | 1, _, _ => exact .inl ⟨rfl, op_call1 rfl rfl Try.call107 (by rw [(show aa.eval (.tmp 9) = .int .i64 y from (hd 0 rfl))]; exact isNaN_got y _)⟩
          | qi + 2, h, _ => omega
        · intro vs X2 hb hv hal hne
          have HL0 := Hd.mk (HE.out.lt)
          have HBW := HB
          replace HB := Hd.mk (bel_then HB.out hb)
          replace HE : Hd (Env X2 []) := ⟨HE.out.to hb⟩
          have HLS := HL0
          have e10 : vs 10 = .bool false := hv 1 (by decide) rfl
          simp only [putAll, List.foldl_cons, List.foldl_nil, Act.put, List.setIfInBounds_toArray, List.set_cons_succ, List.set_cons_zero, List.drop_succ_cons, List.drop_zero, e10]
          generalize vs 9 = s9
          clear hv hal hne hb HL0 HBW HLS e10
          go_upto_region 3 with fail
          refine wp_region_vd 1 [11] [0] [] 84 [.int .i64 0, .int .i64 0] [isV (.bool false)] (by rfl) alloc_Z ?_ ?_
          · intro qi qh qA aa wx hb hs hd
            match qi, qh, qA with
            | 0, _, _ => exact .inl ⟨rfl, op_mv rfl (hs 5 rfl)⟩
            | qi + 1, h, _ => omega
          · intro vs X3 hb hv hal hne
            have HL0 := Hd.mk (HE.out.lt)
            have HBW := HB
            replace HB := Hd.mk (bel_then HB.out hb)
            replace HE : Hd (Env X3 []) := ⟨HE.out.to hb⟩
            have HLS := HL0
            have e11 : vs 11 = .bool false := hv 0 (by decide) rfl
            simp only [putAll, List.foldl_cons, List.foldl_nil, Act.put, List.setIfInBounds_toArray, List.set_cons_succ, List.set_cons_zero, List.drop_succ_cons, List.drop_zero, e11]
            clear hv hal hne hb HL0 HBW HLS e11
            go_upto_region 7 with fail
            refine wp_region_vd 1 [13] [0] [] 84 [.int .i64 0, .int .i64 0] [isV (.bool false)] (by rfl) alloc_Z ?_ ?_
            · intro qi qh qA aa wx hb hs hd
              match qi, qh, qA with
              | 0, _, _ => exact .inl ⟨rfl, op_mv rfl (hs 6 rfl)⟩
              | qi + 1, h, _ => omega
            · intro vs X4 hb hv hal hne
              have HL0 := Hd.mk (HE.out.lt)
              have HBW := HB
              replace HB := Hd.mk (bel_then HB.out hb)
              replace HE : Hd (Env X4 []) := ⟨HE.out.to hb⟩
              have HLS := HL0
              have e13 : vs 13 = .bool false := hv 0 (by decide) rfl
              simp only [putAll, List.foldl_cons, List.foldl_nil, Act.put, List.setIfInBounds_toArray, List.set_cons_succ, List.set_cons_zero, List.drop_succ_cons, List.drop_zero, e13]
              clear hv hal hne hb HL0 HBW HLS e13
              go_upto_region 9 with fail
              refine wp_region_vd 3 [14, 15, 16] [0, 1, 2] [] 84 [.int .i64 0, .int .i64 0] [isV (.int .i64 x), isV (.int .i64 y), isV (.bool false)] (by rfl) alloc_Z ?_ ?_
              · intro qi qh qA aa wx hb hs hd
                match qi, qh, qA with
                | 0, _, _ => exact .inl ⟨rfl, op_mv rfl (hs 0 rfl)⟩
                | 1, _, _ => exact .inl ⟨rfl, op_mv rfl (hs 1 rfl)⟩
                | 2, _, _ => exact .inl ⟨rfl, pure_b (bool_eq (decide_eq_false h1)) (⟨_, op_lssI rfl (hd 0 rfl) (hd 1 rfl), rfl⟩)⟩
                | qi + 3, h, _ => omega
              · intro vs X5 hb hv hal hne
                have HL0 := Hd.mk (HE.out.lt)
                have HBW := HB
                replace HB := Hd.mk (bel_then HB.out hb)
                replace HE : Hd (Env X5 []) := ⟨HE.out.to hb⟩
                have HLS := HL0
                have e16 : vs 16 = .bool false := hv 2 (by decide) rfl
                simp only [putAll, List.foldl_cons, List.foldl_nil, Act.put, List.setIfInBounds_toArray, List.set_cons_succ, List.set_cons_zero, List.drop_succ_cons, List.drop_zero, e16]
                generalize vs 14 = s14
                generalize vs 15 = s15
                clear hv hal hne hb HL0 HBW HLS e16
                go_upto_region 11 with fail
                refine wp_region_vd 3 [17, 18, 19] [0, 1, 2] [] 84 [.int .i64 0, .int .i64 0] [isV (.int .i64 x), isV (.int .i64 y), isV (.bool true)] (by rfl) alloc_Z ?_ ?_
                · intro qi qh qA aa wx hb hs hd
                  match qi, qh, qA with
                  | 0, _, _ => exact .inl ⟨rfl, op_mv rfl (hs 0 rfl)⟩
                  | 1, _, _ => exact .inl ⟨rfl, op_mv rfl (hs 1 rfl)⟩
                  | 2, _, _ => exact .inl ⟨rfl, pure_b (bool_eq (decide_eq_true h2)) (⟨_, op_gtrI rfl (hd 0 rfl) (hd 1 rfl), rfl⟩)⟩
                  | qi + 3, h, _ => omega
                · intro vs X6 hb hv hal hne
                  have HL0 := Hd.mk (HE.out.lt)
                  have HBW := HB
                  replace HB := Hd.mk (bel_then HB.out hb)
                  replace HE : Hd (Env X6 []) := ⟨HE.out.to hb⟩
                  have HLS := HL0
                  have e19 : vs 19 = .bool true := hv 2 (by decide) rfl
                  simp only [putAll, List.foldl_cons, List.foldl_nil, Act.put, List.setIfInBounds_toArray, List.set_cons_succ, List.set_cons_zero, List.drop_succ_cons, List.drop_zero, e19]
                  generalize vs 17 = s17
                  generalize vs 18 = s18
                  clear hv hal hne hb HL0 HBW HLS e19
                  go_wp2_with fail
                  go_ret
                  exact ⟨_, rfl, HB.out, rfl⟩
    · have e : cmpI x y = 0 := by unfold cmpI; rw [if_neg h1, if_neg h2]
      rw [e]
      clear e
      go_enter Try.func93, Try.ntmps93
      go_upto_region 1 with fail
      have HE : Hd (Env w []) := ⟨trivial⟩
      have HB : Hd (Below w.heap.size w w) := ⟨Below.refl _ _⟩
      refine wp_region_vd 2 [7, 8] [0] [] 84 [.int .i64 0, .int .i64 0] [isV (.int .i64 x), isV (.bool false)] (by rfl) alloc_Z ?_ ?_
      · intro qi qh qA aa wx hb hs hd
        match qi, qh, qA with
        | 0, _, _ => exact .inl ⟨rfl, op_mv rfl (hs 0 rfl)⟩
        | 1, _, _ => exact .inl ⟨rfl, op_call1 rfl rfl Try.call107 (by rw [(show aa.eval (.tmp 7) = .int .i64 x from (hd 0 rfl))]; exact isNaN_got x _)⟩
        | qi + 2, h, _ => omega
      · intro vs X1 hb hv hal hne
        have HL0 := Hd.mk (HE.out.lt)
        have HBW := HB
        replace HB := Hd.mk (bel_then HB.out hb)
        replace HE : Hd (Env X1 []) := ⟨HE.out.to hb⟩
        have HLS := HL0
        have e8 : vs 8 = .bool false := hv 1 (by decide) rfl
        simp only [putAll, List.foldl_cons, List.foldl_nil, Act.put, List.setIfInBounds_toArray, List.set_cons_succ, List.set_cons_zero, List.drop_succ_cons, List.drop_zero, e8]
        generalize vs 7 = s7
        clear hv hal hne hb HL0 HBW HLS e8
        go_upto_region 2 with fail
        refine wp_region_vd 2 [9, 10] [0] [] 84 [.int .i64 0, .int .i64 0] [isV (.int .i64 y), isV (.bool false)] (by rfl) alloc_Z ?_ ?_
        · intro qi qh qA aa wx hb hs hd
          match qi, qh, qA with
          | 0, _, _ => exact .inl ⟨rfl, op_mv rfl (hs 1 rfl)⟩
          | 1, _, _ => exact .inl ⟨rfl, op_call1 rfl rfl Try.call107 (by rw [(show aa.eval (.tmp 9) = .int .i64 y from (hd 0 rfl))]; exact isNaN_got y _)⟩
          | qi + 2, h, _ => omega
        · intro vs X2 hb hv hal hne
          have HL0 := Hd.mk (HE.out.lt)
          have HBW := HB
          replace HB := Hd.mk (bel_then HB.out hb)
          replace HE : Hd (Env X2 []) := ⟨HE.out.to hb⟩
          have HLS := HL0
          have e10 : vs 10 = .bool false := hv 1 (by decide) rfl
          simp only [putAll, List.foldl_cons, List.foldl_nil, Act.put, List.setIfInBounds_toArray, List.set_cons_succ, List.set_cons_zero, List.drop_succ_cons, List.drop_zero, e10]
          generalize vs 9 = s9
          clear hv hal hne hb HL0 HBW HLS e10
          go_upto_region 3 with fail
          refine wp_region_vd 1 [11] [0] [] 84 [.int .i64 0, .int .i64 0] [isV (.bool false)] (by rfl) alloc_Z ?_ ?_
          · intro qi qh qA aa wx hb hs hd
            match qi, qh, qA with
            | 0, _, _ => exact .inl ⟨rfl, op_mv rfl (hs 5 rfl)⟩
            | qi + 1, h, _ => omega
          · intro vs X3 hb hv hal hne
            have HL0 := Hd.mk (HE.out.lt)
            have HBW := HB
            replace HB := Hd.mk (bel_then HB.out hb)
            replace HE : Hd (Env X3 []) := ⟨HE.out.to hb⟩
            have HLS := HL0
            have e11 : vs 11 = .bool false := hv 0 (by decide) rfl
            simp only [putAll, List.foldl_cons, List.foldl_nil, Act.put, List.setIfInBounds_toArray, List.set_cons_succ, List.set_cons_zero, List.drop_succ_cons, List.drop_zero, e11]
            clear hv hal hne hb HL0 HBW HLS e11
            go_upto_region 7 with fail
            refine wp_region_vd 1 [13] [0] [] 84 [.int .i64 0, .int .i64 0] [isV (.bool false)] (by rfl) alloc_Z ?_ ?_
            · intro qi qh qA aa wx hb hs hd
              match qi, qh, qA with
              | 0, _, _ => exact .inl ⟨rfl, op_mv rfl (hs 6 rfl)⟩
              | qi + 1, h, _ => omega
            · intro vs X4 hb hv hal hne
              have HL0 := Hd.mk (HE.out.lt)
              have HBW := HB
              replace HB := Hd.mk (bel_then HB.out hb)
              replace HE : Hd (Env X4 []) := ⟨HE.out.to hb⟩
              have HLS := HL0
              have e13 : vs 13 = .bool false := hv 0 (by decide) rfl
              simp only [putAll, List.foldl_cons, List.foldl_nil, Act.put, List.setIfInBounds_toArray, List.set_cons_succ, List.set_cons_zero, List.drop_succ_cons, List.drop_zero, e13]
              clear hv hal hne hb HL0 HBW HLS e13
              go_upto_region 9 with fail
              refine wp_region_vd 3 [14, 15, 16] [0, 1, 2] [] 84 [.int .i64 0, .int .i64 0] [isV (.int .i64 x), isV (.int .i64 y), isV (.bool false)] (by rfl) alloc_Z ?_ ?_
              · intro qi qh qA aa wx hb hs hd
                match qi, qh, qA with
                | 0, _, _ => exact .inl ⟨rfl, op_mv rfl (hs 0 rfl)⟩
                | 1, _, _ => exact .inl ⟨rfl, op_mv rfl (hs 1 rfl)⟩
                | 2, _, _ => exact .inl ⟨rfl, pure_b (bool_eq (decide_eq_false h1)) (⟨_, op_lssI rfl (hd 0 rfl) (hd 1 rfl), rfl⟩)⟩
                | qi + 3, h, _ => omega
              · intro vs X5 hb hv hal hne
                have HL0 := Hd.mk (HE.out.lt)
                have HBW := HB
                replace HB := Hd.mk (bel_then HB.out hb)
                replace HE : Hd (Env X5 []) := ⟨HE.out.to hb⟩
                have HLS := HL0
                have e16 : vs 16 = .bool false := hv 2 (by decide) rfl
                simp only [putAll, List.foldl_cons, List.foldl_nil, Act.put, List.setIfInBounds_toArray, List.set_cons_succ, List.set_cons_zero, List.drop_succ_cons, List.drop_zero, e16]
                generalize vs 14 = s14
                generalize vs 15 = s15
                clear hv hal hne hb HL0 HBW HLS e16
                go_upto_region 11 with fail
                refine wp_region_vd 3 [17, 18, 19] [0, 1, 2] [] 84 [.int .i64 0, .int .i64 0] [isV (.int .i64 x), isV (.int .i64 y), isV (.bool false)] (by rfl) alloc_Z ?_ ?_
                · intro qi qh qA aa wx hb hs hd
                  match qi, qh, qA with
                  | 0, _, _ => exact .inl ⟨rfl, op_mv rfl (hs 0 rfl)⟩
                  | 1, _, _ => exact .inl ⟨rfl, op_mv rfl (hs 1 rfl)⟩
                  | 2, _, _ => exact .inl ⟨rfl, pure_b (bool_eq (decide_eq_false h2)) (⟨_, op_gtrI rfl (hd 0 rfl) (hd 1 rfl), rfl⟩)⟩
                  | qi + 3, h, _ => omega
                · intro vs X6 hb hv hal hne
                  have HL0 := Hd.mk (HE.out.lt)
                  have HBW := HB
                  replace HB := Hd.mk (bel_then HB.out hb)
                  replace HE : Hd (Env X6 []) := ⟨HE.out.to hb⟩
                  have HLS := HL0
                  have e19 : vs 19 = .bool false := hv 2 (by decide) rfl
                  simp only [putAll, List.foldl_cons, List.foldl_nil, Act.put, List.setIfInBounds_toArray, List.set_cons_succ, List.set_cons_zero, List.drop_succ_cons, List.drop_zero, e19]
                  generalize vs 17 = s17
                  generalize vs 18 = s18
                  clear hv hal hne hb HL0 HBW HLS e19
                  go_wp2_with fail
                  go_ret
                  exact ⟨_, rfl, HB.out, rfl⟩
set_option maxRecDepth 100000 in
set_option maxHeartbeats 1000000 in
theorem Or_got (A : Option Addr) (k : Nat) (xs : List Int) (w : World) (hri : RI w A xs) (hln : xs.length ≤ 140737488351232) :
    Calls Try.prog 92 #[.slice A xs.length k] w (Got w (isV (.int .i64 (orL xs))).p) := by
  have HRI := Hd.mk hri
  clear hri
  go_enter Try.func92, Try.ntmps92
  go_upto_region 1 with fail
  have HE : Hd (Env w []) := ⟨trivial⟩
  have HB : Hd (Below w.heap.size w w) := ⟨Below.refl _ _⟩
  refine wp_region_vd 0 [] [] [] 84 [.int .i64 0, .int .i64 0] [] (by rfl) alloc_Z ?_ ?_
  · intro qi qh qA aa wx hb hs hd
    match qi, qh, qA with
    | qi + 0, h, _ => omega
  · intro vs X1 hb hv hal hne
    have HL0 := Hd.mk (HE.out.lt)
    have HBW := HB
    replace HB := Hd.mk (bel_then HB.out hb)
    replace HE : Hd (Env X1 []) := ⟨HE.out.to hb⟩
    have HLS := HL0
    simp only [putAll, List.foldl_cons, List.foldl_nil, Act.put, List.setIfInBounds_toArray, List.set_cons_succ, List.set_cons_zero, List.drop_succ_cons, List.drop_zero]
    clear hv hal hne hb HL0 HBW HLS
    go_upto_region 2 with fail
    refine wp_region_vd 3 [6, 7, 8] [0, 2] [] 84 [.int .i64 0, .int .i64 0] [isV (.slice A xs.length k), isV (.int .i64 (((xs.length : Nat) : Int))), isV (.int .i64 0)] (by rfl) alloc_Z ?_ ?_
    · intro qi qh qA aa wx hb hs hd
      match qi, qh, qA with
      | 0, _, _ => exact .inl ⟨rfl, op_mv rfl (hs 0 rfl)⟩
      | 1, _, _ => exact .inl ⟨rfl, op_len rfl rfl (hd 0 rfl)⟩
      | 2, _, _ => exact .inl ⟨rfl, op_mv rfl rfl⟩
      | qi + 3, h, _ => omega
    · intro vs X2 hb hv hal hne
      have HL0 := Hd.mk (HE.out.lt)
      have HBW := HB
      replace HB := Hd.mk (bel_then HB.out hb)
      replace HE : Hd (Env X2 []) := ⟨HE.out.to hb⟩
      have HLS := HL0
      have e6 : vs 6 = .slice A xs.length k := hv 0 (by decide) rfl
      have e7 : vs 7 = .int .i64 (((xs.length : Nat) : Int)) := hv 1 (by decide) rfl
      have e8 : vs 8 = .int .i64 0 := hv 2 (by decide) rfl
      simp only [putAll, List.foldl_cons, List.foldl_nil, Act.put, List.setIfInBounds_toArray, List.set_cons_succ, List.set_cons_zero, List.drop_succ_cons, List.drop_zero, e6, e7, e8]
      clear hv hal hne hb HL0 HBW HLS e6 e7 e8
      go_wp2_with fail
      go_loopw [8] (fun s8 wr => ∃ j : Nat, j ≤ xs.length ∧ s8 = .int .i64 j ∧ (∀ i : Nat, i < j → xs.getD i 0 = 0) ∧ Below w.heap.size w wr) (fun s8 _ => xs.length - (intOf s8).toNat)
      case atStart => exact ⟨0, Nat.zero_le _, rfl, fun i hi => by omega, HB.out⟩
      case round =>
        obtain ⟨j, hjl, rfl, hz, hb⟩ := hrel
        have HZ := Hd.mk hz
        clear HB HE hz
        have HB := Hd.mk hb
        have HE : Hd (Env wr []) := ⟨trivial⟩
        clear hb
        by_cases hj : j < xs.length
        · obtain ⟨ad, rfl, _⟩ := HRI.out.at_ hj
          go_upto_region 4 with fail
          refine wp_region_vd 2 [10, 11] [] [] 84 [.int .i64 0, .int .i64 0] [isV (.pointer (some (Addr.add ad (((j : Nat) : Int)).toNat))), isV (.int .i64 (xs.getD j 0))] (by rfl) alloc_Z ?_ ?_
          · intro qi qh qA aa wx hb hs hd
            match qi, qh, qA with
            | 0, _, _ => exact .inl ⟨rfl, op_run rfl (op_idx (by omega) (by omega) rfl (hs 6 rfl) (hs 8 rfl) _) rfl⟩
            | 1, _, _ => exact .inl ⟨rfl, op_ldAt rfl rfl (hd 0 rfl) ((HRI.out.to (bel_then HB.out hb)).cellq hj)⟩
            | qi + 2, h, _ => omega
          · intro vs X1 hb hv hal hne
            have HL0 := Hd.mk (HE.out.lt)
            have HBW := HB
            replace HB := Hd.mk (bel_then HB.out hb)
            replace HE : Hd (Env X1 []) := ⟨HE.out.to hb⟩
            have HLS := HL0
            have e11 : vs 11 = .int .i64 (xs.getD j 0) := hv 1 (by decide) rfl
            simp only [putAll, List.foldl_cons, List.foldl_nil, Act.put, List.setIfInBounds_toArray, List.set_cons_succ, List.set_cons_zero, List.drop_succ_cons, List.drop_zero, e11]
            generalize vs 10 = s10
            clear hv hal hne hb HL0 HBW HLS e11
            by_cases h0 : xs.getD j 0 = 0
            · skip
              go_upto_region 5 with fail
              refine wp_region_vd 3 [12, 13, 14] [0, 1, 2] [] 84 [.int .i64 0, .int .i64 0] [isV (.int .i64 (xs.getD j 0)), isV (.int .i64 0), isV (.bool false)] (by rfl) alloc_Z ?_ ?_
              · intro qi qh qA aa wx hb hs hd
                match qi, qh, qA with
                | 0, _, _ => exact .inl ⟨rfl, op_mv rfl (hs 5 rfl)⟩
                | 1, _, _ => exact .inl ⟨rfl, op_mv rfl (hs 3 rfl)⟩
                | 2, _, _ => exact .inl ⟨rfl, pure_b (bool_eq (by rw [h0]; decide)) (⟨_, op_neqI rfl (hd 0 rfl) (hd 1 rfl), rfl⟩)⟩
                | qi + 3, h, _ => omega
              · intro vs X2 hb hv hal hne
                have HL0 := Hd.mk (HE.out.lt)
                have HBW := HB
                replace HB := Hd.mk (bel_then HB.out hb)
                replace HE : Hd (Env X2 []) := ⟨HE.out.to hb⟩
                have HLS := HL0
                have e14 : vs 14 = .bool false := hv 2 (by decide) rfl
                simp only [putAll, List.foldl_cons, List.foldl_nil, Act.put, List.setIfInBounds_toArray, List.set_cons_succ, List.set_cons_zero, List.drop_succ_cons, List.drop_zero, e14]
                generalize vs 12 = s12
                generalize vs 13 = s13
                clear hv hal hne hb HL0 HBW HLS e14
                go_wp2_with fail
                go_roundw
                case rel => exact ⟨j + 1, by omega, by go_num, fun i hi => by
                  by_cases e : i = j
                  · rw [e]; exact h0
                  · exact HZ.out i (by omega), HB.out⟩
                case measure => simp [intOf]; omega
            · have HOR := Hd.mk (orL_hit xs j HZ.out hj h0)
              go_upto_region 5 with fail
              refine wp_region_vd 3 [12, 13, 14] [0, 1, 2] [] 84 [.int .i64 0, .int .i64 0] [isV (.int .i64 (xs.getD j 0)), isV (.int .i64 0), isV (.bool true)] (by rfl) alloc_Z ?_ ?_
              · intro qi qh qA aa wx hb hs hd
                match qi, qh, qA with
                | 0, _, _ => exact .inl ⟨rfl, op_mv rfl (hs 5 rfl)⟩
                | 1, _, _ => exact .inl ⟨rfl, op_mv rfl (hs 3 rfl)⟩
                | 2, _, _ => exact .inl ⟨rfl, pure_b (bool_eq (by rw [decide_eq_false h0]; rfl)) (⟨_, op_neqI rfl (hd 0 rfl) (hd 1 rfl), rfl⟩)⟩
                | qi + 3, h, _ => omega
              · intro vs X2 hb hv hal hne
                have HL0 := Hd.mk (HE.out.lt)
                have HBW := HB
                replace HB := Hd.mk (bel_then HB.out hb)
                replace HE : Hd (Env X2 []) := ⟨HE.out.to hb⟩
                have HLS := HL0
                have e14 : vs 14 = .bool true := hv 2 (by decide) rfl
                simp only [putAll, List.foldl_cons, List.foldl_nil, Act.put, List.setIfInBounds_toArray, List.set_cons_succ, List.set_cons_zero, List.drop_succ_cons, List.drop_zero, e14]
                generalize vs 12 = s12
                generalize vs 13 = s13
                clear hv hal hne hb HL0 HBW HLS e14
                go_upto_region 6 with fail
                refine wp_region_vd 1 [15] [0] [] 84 [.int .i64 0, .int .i64 0] [isV (.int .i64 (xs.getD j 0))] (by rfl) alloc_Z ?_ ?_
                · intro qi qh qA aa wx hb hs hd
                  match qi, qh, qA with
                  | 0, _, _ => exact .inl ⟨rfl, op_mv rfl (hs 5 rfl)⟩
                  | qi + 1, h, _ => omega
                · intro vs X3 hb hv hal hne
                  have HL0 := Hd.mk (HE.out.lt)
                  have HBW := HB
                  replace HB := Hd.mk (bel_then HB.out hb)
                  replace HE : Hd (Env X3 []) := ⟨HE.out.to hb⟩
                  have HLS := HL0
                  have e15 : vs 15 = .int .i64 (xs.getD j 0) := hv 0 (by decide) rfl
                  simp only [putAll, List.foldl_cons, List.foldl_nil, Act.put, List.setIfInBounds_toArray, List.set_cons_succ, List.set_cons_zero, List.drop_succ_cons, List.drop_zero, e15]
                  clear hv hal hne hb HL0 HBW HLS e15
                  go_wp2_with fail
                  go_ret
                  exact ⟨_, rfl, HB.out, by rw [HOR.out]; rfl⟩
        · have e1 : j = xs.length := by omega
          have HOR := Hd.mk (orL_none xs (by rw [← e1]; exact HZ.out))
          go_wp2_with fail
          go_ret
          exact ⟨_, rfl, HB.out, by rw [HOR.out]; rfl⟩
set_option maxRecDepth 100000 in
set_option maxHeartbeats 1000000 in
theorem byOrder_got (a b : Mv) (w : World) :
    Calls Try.prog 74 #[.agg #[.int .i64 a.x, .int .i64 a.y, .int .i64 a.t, .bool a.f], .agg #[.int .i64 b.x, .int .i64 b.y, .int .i64 b.t, .bool b.f]] w (Got w (isV (.int .i64 (ordM a b))).p) := by
  by_cases h1 : a.f = b.f
  · have e0 : ordM a b = orL [0, cmpI a.t b.t, cmpI a.x b.x, cmpI a.y b.y] := by unfold ordM; rw [if_pos h1]
    rw [e0]
    clear e0
    have H1 := Hd.mk h1
    clear h1
    go_enter Try.func74, Try.ntmps74
    go_upto_region 1 with fail
    obtain ⟨W0, hW0⟩ : ∃ W : World, W = (w.alloc (.cells #[.int .i64 a.x, .int .i64 a.y, .int .i64 a.t, .bool a.f] 31)).alloc (.cells #[.int .i64 b.x, .int .i64 b.y, .int .i64 b.t, .bool b.f] 31) := ⟨_, rfl⟩
    rw [← hW0]
    obtain ⟨he, hb⟩ := env_two hW0
    have HE := Hd.mk he
    have HB := Hd.mk hb
    clear he hb hW0
    refine wp_region_vd 0 [] [] [] 84 [.int .i64 0, .int .i64 0] [] (by rfl) alloc_Z ?_ ?_
    · intro qi qh qA aa wx hb hs hd
      match qi, qh, qA with
      | qi + 0, h, _ => omega
    · intro vs X1 hb hv hal hne
      have HL0 := Hd.mk (HE.out.lt)
      have HBW := HB
      replace HB := Hd.mk (bel_then HB.out hb)
      replace HE : Hd (Env X1 [⟨w.heap.size, 31, [.int .i64 a.x, .int .i64 a.y, .int .i64 a.t, .bool a.f]⟩, ⟨w.heap.size + 1, 31, [.int .i64 b.x, .int .i64 b.y, .int .i64 b.t, .bool b.f]⟩]) := ⟨HE.out.to hb⟩
      have HLS := HL0
      simp only [putAll, List.foldl_cons, List.foldl_nil, Act.put, List.setIfInBounds_toArray, List.set_cons_succ, List.set_cons_zero, List.drop_succ_cons, List.drop_zero]
      clear hv hal hne hb HL0 HBW HLS
      go_upto_region 2 with fail
      refine wp_region_vd 5 [6, 7, 8, 9, 10] [0, 2, 4] [] 84 [.int .i64 0, .int .i64 0] [isV (.pointer (some ⟨w.heap.size, 3, none⟩)), isV (.bool a.f), isV (.pointer (some ⟨w.heap.size + 1, 3, none⟩)), isV (.bool b.f), isV (.bool false)] (by rfl) alloc_Z ?_ ?_
      · intro qi qh qA aa wx hb hs hd
        match qi, qh, qA with
        | 0, _, _ => exact .inl ⟨rfl, ⟨_, op_faM3 rfl (hs 2 rfl), rfl⟩⟩
        | 1, _, _ => exact .inl ⟨rfl, op_ldB rfl rfl (hd 0 rfl) ((HE.out.to hb).cell 0 3 rfl rfl)⟩
        | 2, _, _ => exact .inl ⟨rfl, ⟨_, op_faM3 rfl (hs 3 rfl), rfl⟩⟩
        | 3, _, _ => exact .inl ⟨rfl, op_ldB rfl rfl (hd 2 rfl) ((HE.out.to hb).cell 1 3 rfl rfl)⟩
        | 4, _, _ => exact .inl ⟨rfl, pure_b (bool_eq (by rw [H1.out]; cases b.f <;> rfl)) (⟨_, op_neqB rfl (hd 1 rfl) (hd 3 rfl), rfl⟩)⟩
        | qi + 5, h, _ => omega
      · intro vs X2 hb hv hal hne
        have HL0 := Hd.mk (HE.out.lt)
        have HBW := HB
        replace HB := Hd.mk (bel_then HB.out hb)
        replace HE : Hd (Env X2 [⟨w.heap.size, 31, [.int .i64 a.x, .int .i64 a.y, .int .i64 a.t, .bool a.f]⟩, ⟨w.heap.size + 1, 31, [.int .i64 b.x, .int .i64 b.y, .int .i64 b.t, .bool b.f]⟩]) := ⟨HE.out.to hb⟩
        have HLS := HL0
        have e10 : vs 10 = .bool false := hv 4 (by decide) rfl
        simp only [putAll, List.foldl_cons, List.foldl_nil, Act.put, List.setIfInBounds_toArray, List.set_cons_succ, List.set_cons_zero, List.drop_succ_cons, List.drop_zero, e10]
        generalize vs 6 = s6
        generalize vs 7 = s7
        generalize vs 8 = s8
        generalize vs 9 = s9
        clear hv hal hne hb HL0 HBW HLS e10
        go_upto_region 6 with fail
        refine wp_region_vs 19 [13, 14, 15, 16, 17, 18, 19, 20, 21, 22, 23, 24, 25, 26, 27, 28, 29, 30, 4] [0, 1, 3, 6, 8, 11, 13, 18] [] 84 [.int .i64 0, .int .i64 0] [isV (.int .i64 0), isV (.pointer (some ⟨w.heap.size, 2, none⟩)), isV (.int .i64 a.t), isV (.pointer (some ⟨w.heap.size + 1, 2, none⟩)), isV (.int .i64 b.t), isV (.int .i64 (cmpI a.t b.t)), isV (.pointer (some ⟨w.heap.size, 0, none⟩)), isV (.int .i64 a.x), isV (.pointer (some ⟨w.heap.size + 1, 0, none⟩)), isV (.int .i64 b.x), isV (.int .i64 (cmpI a.x b.x)), isV (.pointer (some ⟨w.heap.size, 1, none⟩)), isV (.int .i64 a.y), isV (.pointer (some ⟨w.heap.size + 1, 1, none⟩)), isV (.int .i64 b.y), isV (.int .i64 (cmpI a.y b.y)), isF X2.heap.size ([0, cmpI a.t b.t, cmpI a.x b.x, cmpI a.y b.y]), isV (.int .i64 (orL [0, cmpI a.t b.t, cmpI a.x b.x, cmpI a.y b.y])), isV (.int .i64 (orL [0, cmpI a.t b.t, cmpI a.x b.x, cmpI a.y b.y]))] (by kernel_rfl) (by kernel_rfl) (by kernel_rfl) (by rfl) alloc_Z (fun d v c a w h => by cases d <;> exact h) ?_ ?_
        · intro qi qh qA aa wx hb hs hd
          match qi, qh, qA with
          | 0, _, _ => exact op_mv rfl (hs 5 rfl)
          | 1, _, _ => exact ⟨_, op_faM2 rfl (hs 2 rfl), rfl⟩
          | 2, _, _ => exact op_ldI rfl rfl (hd 1 rfl) ((HE.out.to hb).cell 0 2 rfl rfl)
          | 3, _, _ => exact ⟨_, op_faM2 rfl (hs 3 rfl), rfl⟩
          | 4, _, _ => exact op_ldI rfl rfl (hd 3 rfl) ((HE.out.to hb).cell 1 2 rfl rfl)
          | 5, _, _ => exact op_call2 rfl rfl Try.call93 (by rw [(show aa.eval (.tmp 15) = .int .i64 a.t from (hd 2 rfl)), (show aa.eval (.tmp 17) = .int .i64 b.t from (hd 4 rfl))]; exact Compare_got a.t b.t _)
          | 6, _, _ => exact ⟨_, op_faM0 rfl (hs 2 rfl), rfl⟩
          | 7, _, _ => exact op_ldI rfl rfl (hd 6 rfl) ((HE.out.to hb).cell 0 0 rfl rfl)
          | 8, _, _ => exact ⟨_, op_faM0 rfl (hs 3 rfl), rfl⟩
          | 9, _, _ => exact op_ldI rfl rfl (hd 8 rfl) ((HE.out.to hb).cell 1 0 rfl rfl)
          | 10, _, _ => exact op_call2 rfl rfl Try.call93 (by rw [(show aa.eval (.tmp 20) = .int .i64 a.x from (hd 7 rfl)), (show aa.eval (.tmp 22) = .int .i64 b.x from (hd 9 rfl))]; exact Compare_got a.x b.x _)
          | 11, _, _ => exact ⟨_, op_faM1 rfl (hs 2 rfl), rfl⟩
          | 12, _, _ => exact op_ldI rfl rfl (hd 11 rfl) ((HE.out.to hb).cell 0 1 rfl rfl)
          | 13, _, _ => exact ⟨_, op_faM1 rfl (hs 3 rfl), rfl⟩
          | 14, _, _ => exact op_ldI rfl rfl (hd 13 rfl) ((HE.out.to hb).cell 1 1 rfl rfl)
          | 15, _, _ => exact op_call2 rfl rfl Try.call93 (by rw [(show aa.eval (.tmp 25) = .int .i64 a.y from (hd 12 rfl)), (show aa.eval (.tmp 27) = .int .i64 b.y from (hd 14 rfl))]; exact Compare_got a.y b.y _)
          | 16, _, _ => exact op_lit4 rfl rfl (hd 0 rfl) (hd 5 rfl) (hd 10 rfl) (hd 15 rfl) _ (Nat.le_trans (Nat.le_refl _) hb.size)
          | 17, _, _ => exact op_call1 rfl rfl Try.call92 (by obtain ⟨g, k, rest, e, _, _, _, b⟩ := (hd 16 rfl); rw [show aa.eval (.tmp 29) = _ from e]; exact Or_got _ k _ _ b.ri (by simp))
          | 18, _, _ => exact op_asg rfl (hd 17 rfl)
          | qi + 19, h, _ => omega
        · intro vs X3 hb hv hal hne
          have HL0 := Hd.mk (HE.out.lt)
          have HBW := HB
          replace HB := Hd.mk (bel_then HB.out hb)
          replace HE : Hd (Env X3 [⟨w.heap.size, 31, [.int .i64 a.x, .int .i64 a.y, .int .i64 a.t, .bool a.f]⟩, ⟨w.heap.size + 1, 31, [.int .i64 b.x, .int .i64 b.y, .int .i64 b.t, .bool b.f]⟩]) := ⟨HE.out.to hb⟩
          have HLS := HL0
          have e4 : vs 4 = .int .i64 (orL [0, cmpI a.t b.t, cmpI a.x b.x, cmpI a.y b.y]) := hv 18 (by decide) rfl
          simp only [putAll, List.foldl_cons, List.foldl_nil, Act.put, List.setIfInBounds_toArray, List.set_cons_succ, List.set_cons_zero, List.drop_succ_cons, List.drop_zero, e4]
          generalize vs 13 = s13
          generalize vs 14 = s14
          generalize vs 15 = s15
          generalize vs 16 = s16
          generalize vs 17 = s17
          generalize vs 18 = s18
          generalize vs 19 = s19
          generalize vs 20 = s20
          generalize vs 21 = s21
          generalize vs 22 = s22
          generalize vs 23 = s23
          generalize vs 24 = s24
          generalize vs 25 = s25
          generalize vs 26 = s26
          generalize vs 27 = s27
          generalize vs 28 = s28
          generalize vs 29 = s29
          generalize vs 30 = s30
          clear hv hal hne hb HL0 HBW HLS e4
          go_wp2_with fail
          go_ret
          exact ⟨_, rfl, HB.out, rfl⟩
  · by_cases h2 : a.f = true
    · have e0 : ordM a b = orL [1, cmpI a.t b.t, cmpI a.x b.x, cmpI a.y b.y] := by unfold ordM; rw [if_neg h1, if_pos h2]
      rw [e0]
      clear e0
      have H1 := Hd.mk h1
      have H2 := Hd.mk h2
      clear h1 h2
      go_enter Try.func74, Try.ntmps74
      go_upto_region 1 with fail
      obtain ⟨W0, hW0⟩ : ∃ W : World, W = (w.alloc (.cells #[.int .i64 a.x, .int .i64 a.y, .int .i64 a.t, .bool a.f] 31)).alloc (.cells #[.int .i64 b.x, .int .i64 b.y, .int .i64 b.t, .bool b.f] 31) := ⟨_, rfl⟩
      rw [← hW0]
      obtain ⟨he, hb⟩ := env_two hW0
      have HE := Hd.mk he
      have HB := Hd.mk hb
      clear he hb hW0
      refine wp_region_vd 0 [] [] [] 84 [.int .i64 0, .int .i64 0] [] (by rfl) alloc_Z ?_ ?_
      · intro qi qh qA aa wx hb hs hd
        match qi, qh, qA with
        | qi + 0, h, _ => omega
      · intro vs X1 hb hv hal hne
        have HL0 := Hd.mk (HE.out.lt)
        have HBW := HB
        replace HB := Hd.mk (bel_then HB.out hb)
        replace HE : Hd (Env X1 [⟨w.heap.size, 31, [.int .i64 a.x, .int .i64 a.y, .int .i64 a.t, .bool a.f]⟩, ⟨w.heap.size + 1, 31, [.int .i64 b.x, .int .i64 b.y, .int .i64 b.t, .bool b.f]⟩]) := ⟨HE.out.to hb⟩
        have HLS := HL0
        simp only [putAll, List.foldl_cons, List.foldl_nil, Act.put, List.setIfInBounds_toArray, List.set_cons_succ, List.set_cons_zero, List.drop_succ_cons, List.drop_zero]
        clear hv hal hne hb HL0 HBW HLS
        go_upto_region 2 with fail
        refine wp_region_vd 5 [6, 7, 8, 9, 10] [0, 2, 4] [] 84 [.int .i64 0, .int .i64 0] [isV (.pointer (some ⟨w.heap.size, 3, none⟩)), isV (.bool a.f), isV (.pointer (some ⟨w.heap.size + 1, 3, none⟩)), isV (.bool b.f), isV (.bool true)] (by rfl) alloc_Z ?_ ?_
        · intro qi qh qA aa wx hb hs hd
          match qi, qh, qA with
          | 0, _, _ => exact .inl ⟨rfl, ⟨_, op_faM3 rfl (hs 2 rfl), rfl⟩⟩
          | 1, _, _ => exact .inl ⟨rfl, op_ldB rfl rfl (hd 0 rfl) ((HE.out.to hb).cell 0 3 rfl rfl)⟩
          | 2, _, _ => exact .inl ⟨rfl, ⟨_, op_faM3 rfl (hs 3 rfl), rfl⟩⟩
          | 3, _, _ => exact .inl ⟨rfl, op_ldB rfl rfl (hd 2 rfl) ((HE.out.to hb).cell 1 3 rfl rfl)⟩
          | 4, _, _ => exact .inl ⟨rfl, pure_b (bool_eq (bne_of H1.out)) (⟨_, op_neqB rfl (hd 1 rfl) (hd 3 rfl), rfl⟩)⟩
          | qi + 5, h, _ => omega
        · intro vs X2 hb hv hal hne
          have HL0 := Hd.mk (HE.out.lt)
          have HBW := HB
          replace HB := Hd.mk (bel_then HB.out hb)
          replace HE : Hd (Env X2 [⟨w.heap.size, 31, [.int .i64 a.x, .int .i64 a.y, .int .i64 a.t, .bool a.f]⟩, ⟨w.heap.size + 1, 31, [.int .i64 b.x, .int .i64 b.y, .int .i64 b.t, .bool b.f]⟩]) := ⟨HE.out.to hb⟩
          have HLS := HL0
          have e10 : vs 10 = .bool true := hv 4 (by decide) rfl
          simp only [putAll, List.foldl_cons, List.foldl_nil, Act.put, List.setIfInBounds_toArray, List.set_cons_succ, List.set_cons_zero, List.drop_succ_cons, List.drop_zero, e10]
          generalize vs 6 = s6
          generalize vs 7 = s7
          generalize vs 8 = s8
          generalize vs 9 = s9
          clear hv hal hne hb HL0 HBW HLS e10
          go_upto_region 3 with fail
          refine wp_region_vd 0 [] [] [] 84 [.int .i64 0, .int .i64 0] [] (by rfl) alloc_Z ?_ ?_
          · intro qi qh qA aa wx hb hs hd
            match qi, qh, qA with
            | qi + 0, h, _ => omega
          · intro vs X3 hb hv hal hne
            have HL0 := Hd.mk (HE.out.lt)
            have HBW := HB
            replace HB := Hd.mk (bel_then HB.out hb)
            replace HE : Hd (Env X3 [⟨w.heap.size, 31, [.int .i64 a.x, .int .i64 a.y, .int .i64 a.t, .bool a.f]⟩, ⟨w.heap.size + 1, 31, [.int .i64 b.x, .int .i64 b.y, .int .i64 b.t, .bool b.f]⟩]) := ⟨HE.out.to hb⟩
            have HLS := HL0
            simp only [putAll, List.foldl_cons, List.foldl_nil, Act.put, List.setIfInBounds_toArray, List.set_cons_succ, List.set_cons_zero, List.drop_succ_cons, List.drop_zero]
            clear hv hal hne hb HL0 HBW HLS
            go_upto_region 4 with fail
            refine wp_region_vd 2 [11, 12] [0] [] 84 [.int .i64 0, .int .i64 0] [isV (.pointer (some ⟨w.heap.size, 3, none⟩)), isV (.bool true)] (by rfl) alloc_Z ?_ ?_
            · intro qi qh qA aa wx hb hs hd
              match qi, qh, qA with
              | 0, _, _ => exact .inl ⟨rfl, ⟨_, op_faM3 rfl (hs 2 rfl), rfl⟩⟩
              | 1, _, _ => exact .inl ⟨rfl, wp_b (bool_eq H2.out) (op_ldB rfl rfl (hd 0 rfl) ((HE.out.to hb).cell 0 3 rfl rfl))⟩
              | qi + 2, h, _ => omega
            · intro vs X4 hb hv hal hne
              have HL0 := Hd.mk (HE.out.lt)
              have HBW := HB
              replace HB := Hd.mk (bel_then HB.out hb)
              replace HE : Hd (Env X4 [⟨w.heap.size, 31, [.int .i64 a.x, .int .i64 a.y, .int .i64 a.t, .bool a.f]⟩, ⟨w.heap.size + 1, 31, [.int .i64 b.x, .int .i64 b.y, .int .i64 b.t, .bool b.f]⟩]) := ⟨HE.out.to hb⟩
              have HLS := HL0
              have e12 : vs 12 = .bool true := hv 1 (by decide) rfl
              simp only [putAll, List.foldl_cons, List.foldl_nil, Act.put, List.setIfInBounds_toArray, List.set_cons_succ, List.set_cons_zero, List.drop_succ_cons, List.drop_zero, e12]
              generalize vs 11 = s11
              clear hv hal hne hb HL0 HBW HLS e12
              go_upto_region 5 with fail
              refine wp_region_vd 0 [] [] [] 84 [.int .i64 0, .int .i64 0] [] (by rfl) alloc_Z ?_ ?_
              · intro qi qh qA aa wx hb hs hd
                match qi, qh, qA with
                | qi + 0, h, _ => omega
              · intro vs X5 hb hv hal hne
                have HL0 := Hd.mk (HE.out.lt)
                have HBW := HB
                replace HB := Hd.mk (bel_then HB.out hb)
                replace HE : Hd (Env X5 [⟨w.heap.size, 31, [.int .i64 a.x, .int .i64 a.y, .int .i64 a.t, .bool a.f]⟩, ⟨w.heap.size + 1, 31, [.int .i64 b.x, .int .i64 b.y, .int .i64 b.t, .bool b.f]⟩]) := ⟨HE.out.to hb⟩
                have HLS := HL0
                simp only [putAll, List.foldl_cons, List.foldl_nil, Act.put, List.setIfInBounds_toArray, List.set_cons_succ, List.set_cons_zero, List.drop_succ_cons, List.drop_zero]
                clear hv hal hne hb HL0 HBW HLS
                go_upto_region 6 with fail
                refine wp_region_vs 19 [13, 14, 15, 16, 17, 18, 19, 20, 21, 22, 23, 24, 25, 26, 27, 28, 29, 30, 4] [0, 1, 3, 6, 8, 11, 13, 18] [] 84 [.int .i64 0, .int .i64 0] [isV (.int .i64 1), isV (.pointer (some ⟨w.heap.size, 2, none⟩)), isV (.int .i64 a.t), isV (.pointer (some ⟨w.heap.size + 1, 2, none⟩)), isV (.int .i64 b.t), isV (.int .i64 (cmpI a.t b.t)), isV (.pointer (some ⟨w.heap.size, 0, none⟩)), isV (.int .i64 a.x), isV (.pointer (some ⟨w.heap.size + 1, 0, none⟩)), isV (.int .i64 b.x), isV (.int .i64 (cmpI a.x b.x)), isV (.pointer (some ⟨w.heap.size, 1, none⟩)), isV (.int .i64 a.y), isV (.pointer (some ⟨w.heap.size + 1, 1, none⟩)), isV (.int .i64 b.y), isV (.int .i64 (cmpI a.y b.y)), isF X5.heap.size ([1, cmpI a.t b.t, cmpI a.x b.x, cmpI a.y b.y]), isV (.int .i64 (orL [1, cmpI a.t b.t, cmpI a.x b.x, cmpI a.y b.y])), isV (.int .i64 (orL [1, cmpI a.t b.t, cmpI a.x b.x, cmpI a.y b.y]))] (by kernel_rfl) (by kernel_rfl) (by kernel_rfl) (by rfl) alloc_Z (fun d v c a w h => by cases d <;> exact h) ?_ ?_
                · intro qi qh qA aa wx hb hs hd
                  match qi, qh, qA with
                  | 0, _, _ => exact op_mv rfl (hs 5 rfl)
                  | 1, _, _ => exact ⟨_, op_faM2 rfl (hs 2 rfl), rfl⟩
                  | 2, _, _ => exact op_ldI rfl rfl (hd 1 rfl) ((HE.out.to hb).cell 0 2 rfl rfl)
                  | 3, _, _ => exact ⟨_, op_faM2 rfl (hs 3 rfl), rfl⟩
                  | 4, _, _ => exact op_ldI rfl rfl (hd 3 rfl) ((HE.out.to hb).cell 1 2 rfl rfl)
                  | 5, _, _ => exact op_call2 rfl rfl Try.call93 (by rw [(show aa.eval (.tmp 15) = .int .i64 a.t from (hd 2 rfl)), (show aa.eval (.tmp 17) = .int .i64 b.t from (hd 4 rfl))]; exact Compare_got a.t b.t _)
                  | 6, _, _ => exact ⟨_, op_faM0 rfl (hs 2 rfl), rfl⟩
                  | 7, _, _ => exact op_ldI rfl rfl (hd 6 rfl) ((HE.out.to hb).cell 0 0 rfl rfl)
                  | 8, _, _ => exact ⟨_, op_faM0 rfl (hs 3 rfl), rfl⟩
                  | 9, _, _ => exact op_ldI rfl rfl (hd 8 rfl) ((HE.out.to hb).cell 1 0 rfl rfl)
                  | 10, _, _ => exact op_call2 rfl rfl Try.call93 (by rw [(show aa.eval (.tmp 20) = .int .i64 a.x from (hd 7 rfl)), (show aa.eval (.tmp 22) = .int .i64 b.x from (hd 9 rfl))]; exact Compare_got a.x b.x _)
                  | 11, _, _ => exact ⟨_, op_faM1 rfl (hs 2 rfl), rfl⟩
                  | 12, _, _ => exact op_ldI rfl rfl (hd 11 rfl) ((HE.out.to hb).cell 0 1 rfl rfl)
                  | 13, _, _ => exact ⟨_, op_faM1 rfl (hs 3 rfl), rfl⟩
                  | 14, _, _ => exact op_ldI rfl rfl (hd 13 rfl) ((HE.out.to hb).cell 1 1 rfl rfl)
                  | 15, _, _ => exact op_call2 rfl rfl Try.call93 (by rw [(show aa.eval (.tmp 25) = .int .i64 a.y from (hd 12 rfl)), (show aa.eval (.tmp 27) = .int .i64 b.y from (hd 14 rfl))]; exact Compare_got a.y b.y _)
                  | 16, _, _ => exact op_lit4 rfl rfl (hd 0 rfl) (hd 5 rfl) (hd 10 rfl) (hd 15 rfl) _ (Nat.le_trans (Nat.le_refl _) hb.size)
                  | 17, _, _ => exact op_call1 rfl rfl Try.call92 (by obtain ⟨g, k, rest, e, _, _, _, b⟩ := (hd 16 rfl); rw [show aa.eval (.tmp 29) = _ from e]; exact Or_got _ k _ _ b.ri (by simp))
                  | 18, _, _ => exact op_asg rfl (hd 17 rfl)
                  | qi + 19, h, _ => omega
                · intro vs X6 hb hv hal hne
                  have HL0 := Hd.mk (HE.out.lt)
                  have HBW := HB
                  replace HB := Hd.mk (bel_then HB.out hb)
                  replace HE : Hd (Env X6 [⟨w.heap.size, 31, [.int .i64 a.x, .int .i64 a.y, .int .i64 a.t, .bool a.f]⟩, ⟨w.heap.size + 1, 31, [.int .i64 b.x, .int .i64 b.y, .int .i64 b.t, .bool b.f]⟩]) := ⟨HE.out.to hb⟩
                  have HLS := HL0
                  have e4 : vs 4 = .int .i64 (orL [1, cmpI a.t b.t, cmpI a.x b.x, cmpI a.y b.y]) := hv 18 (by decide) rfl
                  simp only [putAll, List.foldl_cons, List.foldl_nil, Act.put, List.setIfInBounds_toArray, List.set_cons_succ, List.set_cons_zero, List.drop_succ_cons, List.drop_zero, e4]
                  generalize vs 13 = s13
                  generalize vs 14 = s14
                  generalize vs 15 = s15
                  generalize vs 16 = s16
                  generalize vs 17 = s17
                  generalize vs 18 = s18
                  generalize vs 19 = s19
                  generalize vs 20 = s20
                  generalize vs 21 = s21
                  generalize vs 22 = s22
                  generalize vs 23 = s23
                  generalize vs 24 = s24
                  generalize vs 25 = s25
                  generalize vs 26 = s26
                  generalize vs 27 = s27
                  generalize vs 28 = s28
                  generalize vs 29 = s29
                  generalize vs 30 = s30
                  clear hv hal hne hb HL0 HBW HLS e4
                  go_wp2_with fail
                  go_ret
                  exact ⟨_, rfl, HB.out, rfl⟩
    · have h3 : a.f = false := by simpa using h2
      have e0 : ordM a b = orL [(-1), cmpI a.t b.t, cmpI a.x b.x, cmpI a.y b.y] := by unfold ordM; rw [if_neg h1, if_neg h2]
      rw [e0]
      clear e0
      have H1 := Hd.mk h1
      have H3 := Hd.mk h3
      clear h1 h2 h3
      go_enter Try.func74, Try.ntmps74
      go_upto_region 1 with fail
      obtain ⟨W0, hW0⟩ : ∃ W : World, W = (w.alloc (.cells #[.int .i64 a.x, .int .i64 a.y, .int .i64 a.t, .bool a.f] 31)).alloc (.cells #[.int .i64 b.x, .int .i64 b.y, .int .i64 b.t, .bool b.f] 31) := ⟨_, rfl⟩
      rw [← hW0]
      obtain ⟨he, hb⟩ := env_two hW0
      have HE := Hd.mk he
      have HB := Hd.mk hb
      clear he hb hW0
      refine wp_region_vd 0 [] [] [] 84 [.int .i64 0, .int .i64 0] [] (by rfl) alloc_Z ?_ ?_
      · intro qi qh qA aa wx hb hs hd
        match qi, qh, qA with
        | qi + 0, h, _ => omega
      · intro vs X1 hb hv hal hne
        have HL0 := Hd.mk (HE.out.lt)
        have HBW := HB
        replace HB := Hd.mk (bel_then HB.out hb)
        replace HE : Hd (Env X1 [⟨w.heap.size, 31, [.int .i64 a.x, .int .i64 a.y, .int .i64 a.t, .bool a.f]⟩, ⟨w.heap.size + 1, 31, [.int .i64 b.x, .int .i64 b.y, .int .i64 b.t, .bool b.f]⟩]) := ⟨HE.out.to hb⟩
        have HLS := HL0
        simp only [putAll, List.foldl_cons, List.foldl_nil, Act.put, List.setIfInBounds_toArray, List.set_cons_succ, List.set_cons_zero, List.drop_succ_cons, List.drop_zero]
        clear hv hal hne hb HL0 HBW HLS
        go_upto_region 2 with fail
        refine wp_region_vd 5 [6, 7, 8, 9, 10] [0, 2, 4] [] 84 [.int .i64 0, .int .i64 0] [isV (.pointer (some ⟨w.heap.size, 3, none⟩)), isV (.bool a.f), isV (.pointer (some ⟨w.heap.size + 1, 3, none⟩)), isV (.bool b.f), isV (.bool true)] (by rfl) alloc_Z ?_ ?_
        · intro qi qh qA aa wx hb hs hd
          match qi, qh, qA with
          | 0, _, _ => exact .inl ⟨rfl, ⟨_, op_faM3 rfl (hs 2 rfl), rfl⟩⟩
          | 1, _, _ => exact .inl ⟨rfl, op_ldB rfl rfl (hd 0 rfl) ((HE.out.to hb).cell 0 3 rfl rfl)⟩
          | 2, _, _ => exact .inl ⟨rfl, ⟨_, op_faM3 rfl (hs 3 rfl), rfl⟩⟩
          | 3, _, _ => exact .inl ⟨rfl, op_ldB rfl rfl (hd 2 rfl) ((HE.out.to hb).cell 1 3 rfl rfl)⟩
          | 4, _, _ => exact .inl ⟨rfl, pure_b (bool_eq (bne_of H1.out)) (⟨_, op_neqB rfl (hd 1 rfl) (hd 3 rfl), rfl⟩)⟩
          | qi + 5, h, _ => omega
        · intro vs X2 hb hv hal hne
          have HL0 := Hd.mk (HE.out.lt)
          have HBW := HB
          replace HB := Hd.mk (bel_then HB.out hb)
          replace HE : Hd (Env X2 [⟨w.heap.size, 31, [.int .i64 a.x, .int .i64 a.y, .int .i64 a.t, .bool a.f]⟩, ⟨w.heap.size + 1, 31, [.int .i64 b.x, .int .i64 b.y, .int .i64 b.t, .bool b.f]⟩]) := ⟨HE.out.to hb⟩
          have HLS := HL0
          have e10 : vs 10 = .bool true := hv 4 (by decide) rfl
          simp only [putAll, List.foldl_cons, List.foldl_nil, Act.put, List.setIfInBounds_toArray, List.set_cons_succ, List.set_cons_zero, List.drop_succ_cons, List.drop_zero, e10]
          generalize vs 6 = s6
          generalize vs 7 = s7
          generalize vs 8 = s8
          generalize vs 9 = s9
          clear hv hal hne hb HL0 HBW HLS e10
          go_upto_region 3 with fail
          refine wp_region_vd 0 [] [] [] 84 [.int .i64 0, .int .i64 0] [] (by rfl) alloc_Z ?_ ?_
          · intro qi qh qA aa wx hb hs hd
            match qi, qh, qA with
            | qi + 0, h, _ => omega
          · intro vs X3 hb hv hal hne
            have HL0 := Hd.mk (HE.out.lt)
            have HBW := HB
            replace HB := Hd.mk (bel_then HB.out hb)
            replace HE : Hd (Env X3 [⟨w.heap.size, 31, [.int .i64 a.x, .int .i64 a.y, .int .i64 a.t, .bool a.f]⟩, ⟨w.heap.size + 1, 31, [.int .i64 b.x, .int .i64 b.y, .int .i64 b.t, .bool b.f]⟩]) := ⟨HE.out.to hb⟩
            have HLS := HL0
            simp only [putAll, List.foldl_cons, List.foldl_nil, Act.put, List.setIfInBounds_toArray, List.set_cons_succ, List.set_cons_zero, List.drop_succ_cons, List.drop_zero]
            clear hv hal hne hb HL0 HBW HLS
            go_upto_region 4 with fail
            refine wp_region_vd 2 [11, 12] [0] [] 84 [.int .i64 0, .int .i64 0] [isV (.pointer (some ⟨w.heap.size, 3, none⟩)), isV (.bool false)] (by rfl) alloc_Z ?_ ?_
            · intro qi qh qA aa wx hb hs hd
              match qi, qh, qA with
              | 0, _, _ => exact .inl ⟨rfl, ⟨_, op_faM3 rfl (hs 2 rfl), rfl⟩⟩
              | 1, _, _ => exact .inl ⟨rfl, wp_b (bool_eq H3.out) (op_ldB rfl rfl (hd 0 rfl) ((HE.out.to hb).cell 0 3 rfl rfl))⟩
              | qi + 2, h, _ => omega
            · intro vs X4 hb hv hal hne
              have HL0 := Hd.mk (HE.out.lt)
              have HBW := HB
              replace HB := Hd.mk (bel_then HB.out hb)
              replace HE : Hd (Env X4 [⟨w.heap.size, 31, [.int .i64 a.x, .int .i64 a.y, .int .i64 a.t, .bool a.f]⟩, ⟨w.heap.size + 1, 31, [.int .i64 b.x, .int .i64 b.y, .int .i64 b.t, .bool b.f]⟩]) := ⟨HE.out.to hb⟩
              have HLS := HL0
              have e12 : vs 12 = .bool false := hv 1 (by decide) rfl
              simp only [putAll, List.foldl_cons, List.foldl_nil, Act.put, List.setIfInBounds_toArray, List.set_cons_succ, List.set_cons_zero, List.drop_succ_cons, List.drop_zero, e12]
              generalize vs 11 = s11
              clear hv hal hne hb HL0 HBW HLS e12
              go_upto_region 6 with fail
              refine wp_region_vs 19 [13, 14, 15, 16, 17, 18, 19, 20, 21, 22, 23, 24, 25, 26, 27, 28, 29, 30, 4] [0, 1, 3, 6, 8, 11, 13, 18] [] 84 [.int .i64 0, .int .i64 0] [isV (.int .i64 (-1)), isV (.pointer (some ⟨w.heap.size, 2, none⟩)), isV (.int .i64 a.t), isV (.pointer (some ⟨w.heap.size + 1, 2, none⟩)), isV (.int .i64 b.t), isV (.int .i64 (cmpI a.t b.t)), isV (.pointer (some ⟨w.heap.size, 0, none⟩)), isV (.int .i64 a.x), isV (.pointer (some ⟨w.heap.size + 1, 0, none⟩)), isV (.int .i64 b.x), isV (.int .i64 (cmpI a.x b.x)), isV (.pointer (some ⟨w.heap.size, 1, none⟩)), isV (.int .i64 a.y), isV (.pointer (some ⟨w.heap.size + 1, 1, none⟩)), isV (.int .i64 b.y), isV (.int .i64 (cmpI a.y b.y)), isF X4.heap.size ([(-1), cmpI a.t b.t, cmpI a.x b.x, cmpI a.y b.y]), isV (.int .i64 (orL [(-1), cmpI a.t b.t, cmpI a.x b.x, cmpI a.y b.y])), isV (.int .i64 (orL [(-1), cmpI a.t b.t, cmpI a.x b.x, cmpI a.y b.y]))] (by kernel_rfl) (by kernel_rfl) (by kernel_rfl) (by rfl) alloc_Z (fun d v c a w h => by cases d <;> exact h) ?_ ?_
              · intro qi qh qA aa wx hb hs hd
                match qi, qh, qA with
                | 0, _, _ => exact op_mv rfl (hs 5 rfl)
                | 1, _, _ => exact ⟨_, op_faM2 rfl (hs 2 rfl), rfl⟩
                | 2, _, _ => exact op_ldI rfl rfl (hd 1 rfl) ((HE.out.to hb).cell 0 2 rfl rfl)
                | 3, _, _ => exact ⟨_, op_faM2 rfl (hs 3 rfl), rfl⟩
                | 4, _, _ => exact op_ldI rfl rfl (hd 3 rfl) ((HE.out.to hb).cell 1 2 rfl rfl)
                | 5, _, _ => exact op_call2 rfl rfl Try.call93 (by rw [(show aa.eval (.tmp 15) = .int .i64 a.t from (hd 2 rfl)), (show aa.eval (.tmp 17) = .int .i64 b.t from (hd 4 rfl))]; exact Compare_got a.t b.t _)
                | 6, _, _ => exact ⟨_, op_faM0 rfl (hs 2 rfl), rfl⟩
                | 7, _, _ => exact op_ldI rfl rfl (hd 6 rfl) ((HE.out.to hb).cell 0 0 rfl rfl)
                | 8, _, _ => exact ⟨_, op_faM0 rfl (hs 3 rfl), rfl⟩
                | 9, _, _ => exact op_ldI rfl rfl (hd 8 rfl) ((HE.out.to hb).cell 1 0 rfl rfl)
                | 10, _, _ => exact op_call2 rfl rfl Try.call93 (by rw [(show aa.eval (.tmp 20) = .int .i64 a.x from (hd 7 rfl)), (show aa.eval (.tmp 22) = .int .i64 b.x from (hd 9 rfl))]; exact Compare_got a.x b.x _)
                | 11, _, _ => exact ⟨_, op_faM1 rfl (hs 2 rfl), rfl⟩
                | 12, _, _ => exact op_ldI rfl rfl (hd 11 rfl) ((HE.out.to hb).cell 0 1 rfl rfl)
                | 13, _, _ => exact ⟨_, op_faM1 rfl (hs 3 rfl), rfl⟩
                | 14, _, _ => exact op_ldI rfl rfl (hd 13 rfl) ((HE.out.to hb).cell 1 1 rfl rfl)
                | 15, _, _ => exact op_call2 rfl rfl Try.call93 (by rw [(show aa.eval (.tmp 25) = .int .i64 a.y from (hd 12 rfl)), (show aa.eval (.tmp 27) = .int .i64 b.y from (hd 14 rfl))]; exact Compare_got a.y b.y _)
                | 16, _, _ => exact op_lit4 rfl rfl (hd 0 rfl) (hd 5 rfl) (hd 10 rfl) (hd 15 rfl) _ (Nat.le_trans (Nat.le_refl _) hb.size)
                | 17, _, _ => exact op_call1 rfl rfl Try.call92 (by obtain ⟨g, k, rest, e, _, _, _, b⟩ := (hd 16 rfl); rw [show aa.eval (.tmp 29) = _ from e]; exact Or_got _ k _ _ b.ri (by simp))
                | 18, _, _ => exact op_asg rfl (hd 17 rfl)
                | qi + 19, h, _ => omega
              · intro vs X5 hb hv hal hne
                have HL0 := Hd.mk (HE.out.lt)
                have HBW := HB
                replace HB := Hd.mk (bel_then HB.out hb)
                replace HE : Hd (Env X5 [⟨w.heap.size, 31, [.int .i64 a.x, .int .i64 a.y, .int .i64 a.t, .bool a.f]⟩, ⟨w.heap.size + 1, 31, [.int .i64 b.x, .int .i64 b.y, .int .i64 b.t, .bool b.f]⟩]) := ⟨HE.out.to hb⟩
                have HLS := HL0
                have e4 : vs 4 = .int .i64 (orL [(-1), cmpI a.t b.t, cmpI a.x b.x, cmpI a.y b.y]) := hv 18 (by decide) rfl
                simp only [putAll, List.foldl_cons, List.foldl_nil, Act.put, List.setIfInBounds_toArray, List.set_cons_succ, List.set_cons_zero, List.drop_succ_cons, List.drop_zero, e4]
                generalize vs 13 = s13
                generalize vs 14 = s14
                generalize vs 15 = s15
                generalize vs 16 = s16
                generalize vs 17 = s17
                generalize vs 18 = s18
                generalize vs 19 = s19
                generalize vs 20 = s20
                generalize vs 21 = s21
                generalize vs 22 = s22
                generalize vs 23 = s23
                generalize vs 24 = s24
                generalize vs 25 = s25
                generalize vs 26 = s26
                generalize vs 27 = s27
                generalize vs 28 = s28
                generalize vs 29 = s29
                generalize vs 30 = s30
                clear hv hal hne hb HL0 HBW HLS e4
                go_wp2_with fail
                go_ret
                exact ⟨_, rfl, HB.out, rfl⟩
end Go.Proofs.Ytddbmckbankmeaa
