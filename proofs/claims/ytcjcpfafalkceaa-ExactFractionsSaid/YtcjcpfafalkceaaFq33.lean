/- Part 33 of the texts behind this claim. -/
import Derived.Test.YtcjcpfafalkceaaFq14
import Derived.Test.YtcjcpfafalkceaaFq32
set_option linter.unusedVariables false
set_option linter.unusedSimpArgs false
namespace Go.Proofs.Ytcjcpfafalkceaa
open Go.RowKit
section
variable {o : Oper} {a : Act} {x y : Operand} {ty : TypeId} {k n : Int}
theorem op_neqSI (ho : o.op = .binOp .neq 3 x y ty) (hx : a.eval x = .int .i64 k) (hy : a.eval y = .int .i64 k) (w : World) : (execOp a.eval o).run Try.prog w = .ok (.value (.bool false)) w := by
  generalize a.eval = ev at hx hy ⊢
  unfold execOp
  simp only [ho, hx, hy]
  simp [go_sem]
theorem op_neqSE (ho : o.op = .binOp .neq 25 x y ty) (hx : a.eval x = .int .i64 k) (hy : a.eval y = .int .i64 k) (w : World) : (execOp a.eval o).run Try.prog w = .ok (.value (.bool false)) w := by
  generalize a.eval = ev at hx hy ⊢
  unfold execOp
  simp only [ho, hx, hy]
  simp [go_sem]
theorem op_eqlSE (ho : o.op = .binOp .eql 25 x y ty) (hx : a.eval x = .int .i64 k) (hy : a.eval y = .int .i64 k) (w : World) : (execOp a.eval o).run Try.prog w = .ok (.value (.bool true)) w := by
  generalize a.eval = ev at hx hy ⊢
  unfold execOp
  simp only [ho, hx, hy]
  simp [go_sem]
theorem op_eqlcE (ho : o.op = .binOp .eql 25 x (.const (.int .i64 n)) ty) (hx : a.eval x = .int .i64 k) (w : World) : (execOp a.eval o).run Try.prog w = .ok (.value (.bool (decide (k = n)))) w := by
  have hc : a.eval (.const (.int .i64 n)) = .int .i64 n := rfl
  generalize a.eval = ev at hx hc ⊢
  unfold execOp
  simp only [ho, hx, hc]
  simp [go_sem]
  rfl
theorem op_neqcE (ho : o.op = .binOp .neq 25 x (.const (.int .i64 n)) ty) (hx : a.eval x = .int .i64 k) (w : World) : (execOp a.eval o).run Try.prog w = .ok (.value (.bool (!decide (k = n)))) w := by
  have hc : a.eval (.const (.int .i64 n)) = .int .i64 n := rfl
  generalize a.eval = ev at hx hc ⊢
  unfold execOp
  simp only [ho, hx, hc]
  simp [go_sem]
  rfl
end
theorem awake_got (w : World) : Calls Try.prog 17 #[] w (Got w (isV (.bool true)).p) := (awake_calls w).mono fun e w' h => same_got h
set_option maxRecDepth 100000 in
set_option maxHeartbeats 1000000 in
theorem Fractions_got (f g : RQ) (v0 v1 : Value) (w : World) (h0 : (isL [rC f.n, rC f.d]).p v0 w) (h1 : (isL [rC g.n, rC g.d]).p v1 w) :
    Calls Try.prog 12 #[v0, v1] w (Got w (isV (.bool true)).p) := by
  obtain ⟨u0, x0, y0, z0, rfl, p0, q0⟩ := isL_two.1 h0
  obtain ⟨u1, x1, y1, z1, rfl, p1, q1⟩ := isL_two.1 h1
  clear h0 h1
  go_enter Try.func12, Try.ntmps12
  go_upto_region 1 with fail
  obtain ⟨W0, hW0⟩ : ∃ W : World, W = (w.alloc (.cells #[u0, x0, y0, z0] 58)).alloc (.cells #[u1, x1, y1, z1] 58) := ⟨_, rfl⟩
  rw [← hW0]
  obtain ⟨he, hb⟩ := env_two (cp2 p0 q0) (cp2 p1 q1) hW0
  have HE := Hd.mk he
  have HB := Hd.mk hb
  clear he hb hW0
  refine wp_region_vd 6 [12, 13, 14, 11, 15, 16] [3, 4, 5] [] 70 [.bool false, .slice none 0 0] [isL [rC f.n, rC f.d], isL [rC g.n, rC g.d], isP (isV (.int .i64 (rcn f g))) (isV (.int .i64 (rce f g))), isP (isV (.int .i64 (rcn f g))) (isV (.int .i64 (rce f g))), isV (.int .i64 (rcn f g)), isV (.int .i64 (rce f g))] (by rfl) alloc_whole ?_ ?_
  · intro i hi hA aa wx hb hs hd
    match i, hi, hA with
    | 0, _, _ => exact .inl ⟨rfl, op_ldR rfl rfl (hs 2 rfl) ((HE.out.to hb).get 0 rfl)⟩
    | 1, _, _ => exact .inl ⟨rfl, op_ldR rfl rfl (hs 3 rfl) ((HE.out.to hb).get 1 rfl)⟩
    | 2, _, _ => exact .inl ⟨rfl, op_call2 rfl rfl Try.call57 (RatCmp_got f g _ _ _ (hd 0 rfl) (hd 1 rfl))⟩
    | 3, _, _ => exact .inl ⟨rfl, op_mv rfl (hd 2 rfl)⟩
    | 4, _, _ => exact .inl ⟨rfl, op_fst rfl (hd 3 rfl)⟩
    | 5, _, _ => exact .inl ⟨rfl, op_snd rfl (hd 3 rfl)⟩
    | i + 6, h, _ => omega
  · intro vs X1 hb hv hal hne
    replace HB := Hd.mk (bel_then HB.out hb)
    replace HE : Hd (Env X1 [⟨w.heap.size, 58, [rC f.n, rC f.d]⟩, ⟨w.heap.size + 1, 58, [rC g.n, rC g.d]⟩]) := ⟨HE.out.to hb⟩
    have e15 : vs 15 = .int .i64 (rcn f g) := hv 4 (by decide) rfl
    have e16 : vs 16 = .int .i64 (rce f g) := hv 5 (by decide) rfl
    simp only [putAll, List.foldl_cons, List.foldl_nil, Act.put, List.setIfInBounds_toArray, List.set_cons_succ, List.set_cons_zero, List.drop_succ_cons, List.drop_zero, e15, e16]
    generalize vs 12 = s12
    generalize vs 13 = s13
    generalize vs 14 = s14
    generalize vs 11 = s11
    clear hv hal hne hb
    go_upto_region 2 with fail
    refine wp_region_vd 6 [18, 19, 20, 17, 21, 22] [3, 4, 5] [] 70 [.bool false, .slice none 0 0] [isL [rC f.n, rC f.d], isL [rC g.n, rC g.d], isP (isV (.int .i64 (rcn f g))) (isV (.int .i64 (rce f g))), isP (isV (.int .i64 (rcn f g))) (isV (.int .i64 (rce f g))), isV (.int .i64 (rcn f g)), isV (.int .i64 (rce f g))] (by rfl) alloc_whole ?_ ?_
    · intro i hi hA aa wx hb hs hd
      match i, hi, hA with
      | 0, _, _ => exact .inl ⟨rfl, op_ldR rfl rfl (hs 2 rfl) ((HE.out.to hb).get 0 rfl)⟩
      | 1, _, _ => exact .inl ⟨rfl, op_ldR rfl rfl (hs 3 rfl) ((HE.out.to hb).get 1 rfl)⟩
      | 2, _, _ => exact .inl ⟨rfl, op_call2 rfl rfl Try.call58 (rCmpR_got f g _ _ _ (hd 0 rfl) (hd 1 rfl))⟩
      | 3, _, _ => exact .inl ⟨rfl, op_mv rfl (hd 2 rfl)⟩
      | 4, _, _ => exact .inl ⟨rfl, op_fst rfl (hd 3 rfl)⟩
      | 5, _, _ => exact .inl ⟨rfl, op_snd rfl (hd 3 rfl)⟩
      | i + 6, h, _ => omega
    · intro vs X2 hb hv hal hne
      replace HB := Hd.mk (bel_then HB.out hb)
      replace HE : Hd (Env X2 [⟨w.heap.size, 58, [rC f.n, rC f.d]⟩, ⟨w.heap.size + 1, 58, [rC g.n, rC g.d]⟩]) := ⟨HE.out.to hb⟩
      have e21 : vs 21 = .int .i64 (rcn f g) := hv 4 (by decide) rfl
      have e22 : vs 22 = .int .i64 (rce f g) := hv 5 (by decide) rfl
      simp only [putAll, List.foldl_cons, List.foldl_nil, Act.put, List.setIfInBounds_toArray, List.set_cons_succ, List.set_cons_zero, List.drop_succ_cons, List.drop_zero, e21, e22]
      generalize vs 18 = s18
      generalize vs 19 = s19
      generalize vs 20 = s20
      generalize vs 17 = s17
      clear hv hal hne hb
      go_upto_region 3 with fail
      refine wp_region_vd 12 [23, 24, 25, 26, 27, 28, 29, 30, 31, 32, 33, 34] [0, 1, 2, 3, 4, 5, 6, 7, 8, 10, 11] [] 70 [.bool false, .slice none 0 0] [isV (.int .i64 (rcn f g)), isV (.int .i64 (rcn f g)), isV (.bool false), isV (.bool false), isV (.int .i64 (rce f g)), isV (.int .i64 (rce f g)), isV (.bool false), isV (.bool false), isV (.bool false), isV (.bool true), isV (.bool false), isV (.bool false)] (by rfl) alloc_whole ?_ ?_
      · intro i hi hA aa wx hb hs hd
        match i, hi, hA with
        | 0, _, _ => exact .inl ⟨rfl, op_mv rfl (hs 5 rfl)⟩
        | 1, _, _ => exact .inl ⟨rfl, op_mv rfl (hs 7 rfl)⟩
        | 2, _, _ => exact .inl ⟨rfl, ⟨_, op_neqSI rfl (hd 0 rfl) (hd 1 rfl), rfl⟩⟩
        | 3, _, _ => exact .inl ⟨rfl, op_mv rfl (hd 2 rfl)⟩
        | 4, _, _ => exact .inl ⟨⟨rfl, hd 3 rfl⟩, op_mv rfl (hs 6 rfl)⟩
        | 5, _, _ => exact .inl ⟨⟨rfl, hd 3 rfl⟩, op_mv rfl (hs 8 rfl)⟩
        | 6, _, _ => exact .inl ⟨⟨rfl, hd 3 rfl⟩, ⟨_, op_neqSE rfl (hd 4 rfl) (hd 5 rfl), rfl⟩⟩
        | 7, _, _ => exact .inl ⟨rfl, ⟨_, op_pickF rfl (hd 3 rfl) (hd 6 rfl), rfl⟩⟩
        | 8, _, _ => exact .inl ⟨rfl, op_mv rfl (hd 7 rfl)⟩
        | 9, _, _ => exact .inl ⟨⟨rfl, hd 8 rfl⟩, op_call0 rfl rfl Try.call17 (awake_got _)⟩
        | 10, _, _ => exact .inl ⟨⟨rfl, hd 8 rfl⟩, ⟨_, op_not rfl (hd 9 rfl), rfl⟩⟩
        | 11, _, _ => exact .inl ⟨rfl, ⟨_, op_pickF rfl (hd 8 rfl) (hd 10 rfl), rfl⟩⟩
        | i + 12, h, _ => omega
      · intro vs X3 hb hv hal hne
        replace HB := Hd.mk (bel_then HB.out hb)
        replace HE : Hd (Env X3 [⟨w.heap.size, 58, [rC f.n, rC f.d]⟩, ⟨w.heap.size + 1, 58, [rC g.n, rC g.d]⟩]) := ⟨HE.out.to hb⟩
        have e34 : vs 34 = .bool false := hv 11 (by decide) rfl
        simp only [putAll, List.foldl_cons, List.foldl_nil, Act.put, List.setIfInBounds_toArray, List.set_cons_succ, List.set_cons_zero, List.drop_succ_cons, List.drop_zero, e34]
        generalize vs 23 = s23
        generalize vs 24 = s24
        generalize vs 25 = s25
        generalize vs 26 = s26
        generalize vs 27 = s27
        generalize vs 28 = s28
        generalize vs 29 = s29
        generalize vs 30 = s30
        generalize vs 31 = s31
        generalize vs 32 = s32
        generalize vs 33 = s33
        clear hv hal hne hb
        go_upto_region 5 with fail
        refine wp_region_vd 7 [36, 37, 38, 35, 39, 40, 9] [3, 4, 5] [6] 58 [.bool false, .slice none 0 0, .bool false, .slice none 0 0] [isL [rC f.n, rC f.d], isL [rC g.n, rC g.d], isP (isL [zC (rqn f g (f.n.val * g.d.val + g.n.val * f.d.val) (f.d.val * g.d.val)), zC (rqd f g (f.n.val * g.d.val + g.n.val * f.d.val) (f.d.val * g.d.val))]) (isV (.int .i64 (rqe f g (f.n.val * g.d.val + g.n.val * f.d.val) (f.d.val * g.d.val)))), isP (isL [zC (rqn f g (f.n.val * g.d.val + g.n.val * f.d.val) (f.d.val * g.d.val)), zC (rqd f g (f.n.val * g.d.val + g.n.val * f.d.val) (f.d.val * g.d.val))]) (isV (.int .i64 (rqe f g (f.n.val * g.d.val + g.n.val * f.d.val) (f.d.val * g.d.val)))), isL [zC (rqn f g (f.n.val * g.d.val + g.n.val * f.d.val) (f.d.val * g.d.val)), zC (rqd f g (f.n.val * g.d.val + g.n.val * f.d.val) (f.d.val * g.d.val))], isV (.int .i64 (rqe f g (f.n.val * g.d.val + g.n.val * f.d.val) (f.d.val * g.d.val))), SP.any] (by rfl) alloc_R ?_ ?_
        · intro i hi hA aa wx hb hs hd
          match i, hi, hA with
          | 0, _, _ => exact .inl ⟨rfl, op_ldR rfl rfl (hs 2 rfl) ((HE.out.to hb).get 0 rfl)⟩
          | 1, _, _ => exact .inl ⟨rfl, op_ldR rfl rfl (hs 3 rfl) ((HE.out.to hb).get 1 rfl)⟩
          | 2, _, _ => exact .inl ⟨rfl, op_call2 rfl rfl Try.call51 (RatAdd_got f g _ _ _ (hd 0 rfl) (hd 1 rfl))⟩
          | 3, _, _ => exact .inl ⟨rfl, op_mv rfl (hd 2 rfl)⟩
          | 4, _, _ => exact .inl ⟨rfl, op_fst rfl (hd 3 rfl)⟩
          | 5, _, _ => exact .inl ⟨rfl, op_snd rfl (hd 3 rfl)⟩
          | 6, _, h => cases h
          | i + 7, h, _ => omega
        · intro vs X4 hb hv hal hne
          have HL0 := Hd.mk (HE.out.lt)
          have HBW := HB
          replace HB := Hd.mk (bel_then HB.out hb)
          replace HE : Hd (Env X4 [⟨w.heap.size, 58, [rC f.n, rC f.d]⟩, ⟨w.heap.size + 1, 58, [rC g.n, rC g.d]⟩]) := ⟨HE.out.to hb⟩
          obtain ⟨g9, e9, l9, b9⟩ : ∃ g, vs 9 = .pointer (some ⟨g, 0, none⟩) ∧ _ := hal 6 rfl
          have t39 : (isL [zC (rqn f g (f.n.val * g.d.val + g.n.val * f.d.val) (f.d.val * g.d.val)), zC (rqd f g (f.n.val * g.d.val + g.n.val * f.d.val) (f.d.val * g.d.val))]).p (vs 39) X4 := hv 4 (by decide) rfl
          obtain ⟨u39, y39, p39, q39, e39, c39, k39⟩ := isL_two.1 t39
          have e40 : vs 40 = .int .i64 (rqe f g (f.n.val * g.d.val + g.n.val * f.d.val) (f.d.val * g.d.val)) := hv 5 (by decide) rfl
          simp only [putAll, List.foldl_cons, List.foldl_nil, Act.put, List.setIfInBounds_toArray, List.set_cons_succ, List.set_cons_zero, List.drop_succ_cons, List.drop_zero, e9, e39, e40]
          generalize vs 36 = s36
          generalize vs 37 = s37
          generalize vs 38 = s38
          generalize vs 35 = s35
          replace HE : Hd (Env X4 [⟨w.heap.size, 58, [rC f.n, rC f.d]⟩, ⟨w.heap.size + 1, 58, [rC g.n, rC g.d]⟩, ⟨g9, 58, [aC, aC]⟩]) := ⟨Env.addne (e := ⟨g9, 58, [aC, aC]⟩) HE.out ⟨_, b9, cp2 (cpz _) (cpz _)⟩ (fun e' he => Nat.ne_of_lt (Nat.lt_of_lt_of_le (HL0.out e' he) l9))⟩
          have G9 : Hd (w.heap.size ≤ g9) := ⟨Nat.le_trans HBW.out.size l9⟩
          clear l9 b9
          clear HL0 HBW e9
          refine wpList_st rfl rfl rfl rfl rfl (sto_R c39 k39 (HE.out.get 2 rfl)) ?_
          have HE' : Env (putAt (putAt X4 g9 0 u39 y39) g9 2 p39 q39) [⟨w.heap.size, 58, [rC f.n, rC f.d]⟩, ⟨w.heap.size + 1, 58, [rC g.n, rC g.d]⟩, ⟨g9, 58, [zC (rqn f g (f.n.val * g.d.val + g.n.val * f.d.val) (f.d.val * g.d.val)), zC (rqd f g (f.n.val * g.d.val + g.n.val * f.d.val) (f.d.val * g.d.val))]⟩] := HE.out.put4 2 rfl c39 k39
          have HB' := below_put4 (u := u39) (v := y39) (u' := p39) (v' := q39) HB.out (show w.heap.size ≤ g9 from G9.out)
          generalize putAt (putAt X4 g9 0 u39 y39) g9 2 p39 q39 = X5 at *
          replace HE := Hd.mk HE'
          replace HB := Hd.mk HB'
          clear HE' HB'
          clear hv hal hne hb
          go_upto_region 6 with fail
          refine wp_region_vd 7 [42, 43, 44, 41, 45, 46, 10] [3, 4, 5] [6] 58 [.bool false, .slice none 0 0, .bool false, .slice none 0 0] [isL [rC f.n, rC f.d], isL [rC g.n, rC g.d], isP (isL [zC (rqn f g (f.n.val * g.d.val + g.n.val * f.d.val) (f.d.val * g.d.val)), zC (rqd f g (f.n.val * g.d.val + g.n.val * f.d.val) (f.d.val * g.d.val))]) (isV (.int .i64 (rqe f g (f.n.val * g.d.val + g.n.val * f.d.val) (f.d.val * g.d.val)))), isP (isL [zC (rqn f g (f.n.val * g.d.val + g.n.val * f.d.val) (f.d.val * g.d.val)), zC (rqd f g (f.n.val * g.d.val + g.n.val * f.d.val) (f.d.val * g.d.val))]) (isV (.int .i64 (rqe f g (f.n.val * g.d.val + g.n.val * f.d.val) (f.d.val * g.d.val)))), isL [zC (rqn f g (f.n.val * g.d.val + g.n.val * f.d.val) (f.d.val * g.d.val)), zC (rqd f g (f.n.val * g.d.val + g.n.val * f.d.val) (f.d.val * g.d.val))], isV (.int .i64 (rqe f g (f.n.val * g.d.val + g.n.val * f.d.val) (f.d.val * g.d.val))), SP.any] (by rfl) alloc_R ?_ ?_
          · intro i hi hA aa wx hb hs hd
            match i, hi, hA with
            | 0, _, _ => exact .inl ⟨rfl, op_ldR rfl rfl (hs 2 rfl) ((HE.out.to hb).get 0 rfl)⟩
            | 1, _, _ => exact .inl ⟨rfl, op_ldR rfl rfl (hs 3 rfl) ((HE.out.to hb).get 1 rfl)⟩
            | 2, _, _ => exact .inl ⟨rfl, op_call2 rfl rfl Try.call59 (rAdd_got f g _ _ _ (hd 0 rfl) (hd 1 rfl))⟩
            | 3, _, _ => exact .inl ⟨rfl, op_mv rfl (hd 2 rfl)⟩
            | 4, _, _ => exact .inl ⟨rfl, op_fst rfl (hd 3 rfl)⟩
            | 5, _, _ => exact .inl ⟨rfl, op_snd rfl (hd 3 rfl)⟩
            | 6, _, h => cases h
            | i + 7, h, _ => omega
          · intro vs X6 hb hv hal hne
            have HL0 := Hd.mk (HE.out.lt)
            have HBW := HB
            replace HB := Hd.mk (bel_then HB.out hb)
            replace HE : Hd (Env X6 [⟨w.heap.size, 58, [rC f.n, rC f.d]⟩, ⟨w.heap.size + 1, 58, [rC g.n, rC g.d]⟩, ⟨g9, 58, [zC (rqn f g (f.n.val * g.d.val + g.n.val * f.d.val) (f.d.val * g.d.val)), zC (rqd f g (f.n.val * g.d.val + g.n.val * f.d.val) (f.d.val * g.d.val))]⟩]) := ⟨HE.out.to hb⟩
            obtain ⟨g10, e10, l10, b10⟩ : ∃ g, vs 10 = .pointer (some ⟨g, 0, none⟩) ∧ _ := hal 6 rfl
            have t45 : (isL [zC (rqn f g (f.n.val * g.d.val + g.n.val * f.d.val) (f.d.val * g.d.val)), zC (rqd f g (f.n.val * g.d.val + g.n.val * f.d.val) (f.d.val * g.d.val))]).p (vs 45) X6 := hv 4 (by decide) rfl
            obtain ⟨u45, y45, p45, q45, e45, c45, k45⟩ := isL_two.1 t45
            have e46 : vs 46 = .int .i64 (rqe f g (f.n.val * g.d.val + g.n.val * f.d.val) (f.d.val * g.d.val)) := hv 5 (by decide) rfl
            simp only [putAll, List.foldl_cons, List.foldl_nil, Act.put, List.setIfInBounds_toArray, List.set_cons_succ, List.set_cons_zero, List.drop_succ_cons, List.drop_zero, e10, e45, e46]
            generalize vs 42 = s42
            generalize vs 43 = s43
            generalize vs 44 = s44
            generalize vs 41 = s41
            replace HE : Hd (Env X6 [⟨w.heap.size, 58, [rC f.n, rC f.d]⟩, ⟨w.heap.size + 1, 58, [rC g.n, rC g.d]⟩, ⟨g9, 58, [zC (rqn f g (f.n.val * g.d.val + g.n.val * f.d.val) (f.d.val * g.d.val)), zC (rqd f g (f.n.val * g.d.val + g.n.val * f.d.val) (f.d.val * g.d.val))]⟩, ⟨g10, 58, [aC, aC]⟩]) := ⟨Env.addne (e := ⟨g10, 58, [aC, aC]⟩) HE.out ⟨_, b10, cp2 (cpz _) (cpz _)⟩ (fun e' he => Nat.ne_of_lt (Nat.lt_of_lt_of_le (HL0.out e' he) l10))⟩
            have G10 : Hd (w.heap.size ≤ g10) := ⟨Nat.le_trans HBW.out.size l10⟩
            clear l10 b10
            clear HL0 HBW e10
            refine wpList_st rfl rfl rfl rfl rfl (sto_R c45 k45 (HE.out.get 3 rfl)) ?_
            have HE' : Env (putAt (putAt X6 g10 0 u45 y45) g10 2 p45 q45) [⟨w.heap.size, 58, [rC f.n, rC f.d]⟩, ⟨w.heap.size + 1, 58, [rC g.n, rC g.d]⟩, ⟨g9, 58, [zC (rqn f g (f.n.val * g.d.val + g.n.val * f.d.val) (f.d.val * g.d.val)), zC (rqd f g (f.n.val * g.d.val + g.n.val * f.d.val) (f.d.val * g.d.val))]⟩, ⟨g10, 58, [zC (rqn f g (f.n.val * g.d.val + g.n.val * f.d.val) (f.d.val * g.d.val)), zC (rqd f g (f.n.val * g.d.val + g.n.val * f.d.val) (f.d.val * g.d.val))]⟩] := HE.out.put4 3 rfl c45 k45
            have HB' := below_put4 (u := u45) (v := y45) (u' := p45) (v' := q45) HB.out (show w.heap.size ≤ g10 from G10.out)
            generalize putAt (putAt X6 g10 0 u45 y45) g10 2 p45 q45 = X7 at *
            replace HE := Hd.mk HE'
            replace HB := Hd.mk HB'
            clear HE' HB'
            clear hv hal hne hb
            go_upto_region 7 with fail
            refine wp_region_vd 9 [47, 48, 49, 50, 51, 52, 53, 54, 55] [3, 4, 5, 6, 7, 8] [] 70 [.bool false, .slice none 0 0] [isL [zC (rqn f g (f.n.val * g.d.val + g.n.val * f.d.val) (f.d.val * g.d.val)), zC (rqd f g (f.n.val * g.d.val + g.n.val * f.d.val) (f.d.val * g.d.val))], isL [zC (rqn f g (f.n.val * g.d.val + g.n.val * f.d.val) (f.d.val * g.d.val)), zC (rqd f g (f.n.val * g.d.val + g.n.val * f.d.val) (f.d.val * g.d.val))], isV (.bool true), isV (.bool false), isV (.bool false), isV (.int .i64 (rqe f g (f.n.val * g.d.val + g.n.val * f.d.val) (f.d.val * g.d.val))), isV (.int .i64 (rqe f g (f.n.val * g.d.val + g.n.val * f.d.val) (f.d.val * g.d.val))), isV (.bool false), isV (.bool false)] (by rfl) alloc_whole ?_ ?_
            · intro i hi hA aa wx hb hs hd
              match i, hi, hA with
              | 0, _, _ => exact .inl ⟨rfl, op_ldR rfl rfl (hs 9 rfl) ((HE.out.to hb).get 2 rfl)⟩
              | 1, _, _ => exact .inl ⟨rfl, op_ldR rfl rfl (hs 10 rfl) ((HE.out.to hb).get 3 rfl)⟩
              | 2, _, _ => exact .inl ⟨rfl, op_call2 rfl rfl Try.call54 (SameRat_got (rqn f g (f.n.val * g.d.val + g.n.val * f.d.val) (f.d.val * g.d.val)) (rqd f g (f.n.val * g.d.val + g.n.val * f.d.val) (f.d.val * g.d.val)) _ _ _ (hd 0 rfl) (hd 1 rfl))⟩
              | 3, _, _ => exact .inl ⟨rfl, ⟨_, op_not rfl (hd 2 rfl), rfl⟩⟩
              | 4, _, _ => exact .inl ⟨rfl, op_mv rfl (hd 3 rfl)⟩
              | 5, _, _ => exact .inl ⟨⟨rfl, hd 4 rfl⟩, op_mv rfl (hs 6 rfl)⟩
              | 6, _, _ => exact .inl ⟨⟨rfl, hd 4 rfl⟩, op_mv rfl (hs 8 rfl)⟩
              | 7, _, _ => exact .inl ⟨⟨rfl, hd 4 rfl⟩, ⟨_, op_neqSE rfl (hd 5 rfl) (hd 6 rfl), rfl⟩⟩
              | 8, _, _ => exact .inl ⟨rfl, ⟨_, op_pickF rfl (hd 4 rfl) (hd 7 rfl), rfl⟩⟩
              | i + 9, h, _ => omega
            · intro vs X8 hb hv hal hne
              replace HB := Hd.mk (bel_then HB.out hb)
              replace HE : Hd (Env X8 [⟨w.heap.size, 58, [rC f.n, rC f.d]⟩, ⟨w.heap.size + 1, 58, [rC g.n, rC g.d]⟩, ⟨g9, 58, [zC (rqn f g (f.n.val * g.d.val + g.n.val * f.d.val) (f.d.val * g.d.val)), zC (rqd f g (f.n.val * g.d.val + g.n.val * f.d.val) (f.d.val * g.d.val))]⟩, ⟨g10, 58, [zC (rqn f g (f.n.val * g.d.val + g.n.val * f.d.val) (f.d.val * g.d.val)), zC (rqd f g (f.n.val * g.d.val + g.n.val * f.d.val) (f.d.val * g.d.val))]⟩]) := ⟨HE.out.to hb⟩
              have e55 : vs 55 = .bool false := hv 8 (by decide) rfl
              simp only [putAll, List.foldl_cons, List.foldl_nil, Act.put, List.setIfInBounds_toArray, List.set_cons_succ, List.set_cons_zero, List.drop_succ_cons, List.drop_zero, e55]
              generalize vs 47 = s47
              generalize vs 48 = s48
              generalize vs 49 = s49
              generalize vs 50 = s50
              generalize vs 51 = s51
              generalize vs 52 = s52
              generalize vs 53 = s53
              generalize vs 54 = s54
              clear hv hal hne hb
              go_upto_region 9 with fail
              refine wp_region_vd 6 [57, 58, 59, 56, 60, 61] [3, 4, 5] [] 70 [.bool false, .slice none 0 0] [isL [rC f.n, rC f.d], isL [rC g.n, rC g.d], isP (isL [zC (rqn f g (f.n.val * g.d.val + -g.n.val * f.d.val) (f.d.val * g.d.val)), zC (rqd f g (f.n.val * g.d.val + -g.n.val * f.d.val) (f.d.val * g.d.val))]) (isV (.int .i64 (rqe f g (f.n.val * g.d.val + -g.n.val * f.d.val) (f.d.val * g.d.val)))), isP (isL [zC (rqn f g (f.n.val * g.d.val + -g.n.val * f.d.val) (f.d.val * g.d.val)), zC (rqd f g (f.n.val * g.d.val + -g.n.val * f.d.val) (f.d.val * g.d.val))]) (isV (.int .i64 (rqe f g (f.n.val * g.d.val + -g.n.val * f.d.val) (f.d.val * g.d.val)))), isL [zC (rqn f g (f.n.val * g.d.val + -g.n.val * f.d.val) (f.d.val * g.d.val)), zC (rqd f g (f.n.val * g.d.val + -g.n.val * f.d.val) (f.d.val * g.d.val))], isV (.int .i64 (rqe f g (f.n.val * g.d.val + -g.n.val * f.d.val) (f.d.val * g.d.val)))] (by rfl) alloc_whole ?_ ?_
              · intro i hi hA aa wx hb hs hd
                match i, hi, hA with
                | 0, _, _ => exact .inl ⟨rfl, op_ldR rfl rfl (hs 2 rfl) ((HE.out.to hb).get 0 rfl)⟩
                | 1, _, _ => exact .inl ⟨rfl, op_ldR rfl rfl (hs 3 rfl) ((HE.out.to hb).get 1 rfl)⟩
                | 2, _, _ => exact .inl ⟨rfl, op_call2 rfl rfl Try.call55 (RatSub_got f g _ _ _ (hd 0 rfl) (hd 1 rfl))⟩
                | 3, _, _ => exact .inl ⟨rfl, op_mv rfl (hd 2 rfl)⟩
                | 4, _, _ => exact .inl ⟨rfl, op_fst rfl (hd 3 rfl)⟩
                | 5, _, _ => exact .inl ⟨rfl, op_snd rfl (hd 3 rfl)⟩
                | i + 6, h, _ => omega
              · intro vs X9 hb hv hal hne
                replace HB := Hd.mk (bel_then HB.out hb)
                replace HE : Hd (Env X9 [⟨w.heap.size, 58, [rC f.n, rC f.d]⟩, ⟨w.heap.size + 1, 58, [rC g.n, rC g.d]⟩, ⟨g9, 58, [zC (rqn f g (f.n.val * g.d.val + g.n.val * f.d.val) (f.d.val * g.d.val)), zC (rqd f g (f.n.val * g.d.val + g.n.val * f.d.val) (f.d.val * g.d.val))]⟩, ⟨g10, 58, [zC (rqn f g (f.n.val * g.d.val + g.n.val * f.d.val) (f.d.val * g.d.val)), zC (rqd f g (f.n.val * g.d.val + g.n.val * f.d.val) (f.d.val * g.d.val))]⟩]) := ⟨HE.out.to hb⟩
                have t60 : (isL [zC (rqn f g (f.n.val * g.d.val + -g.n.val * f.d.val) (f.d.val * g.d.val)), zC (rqd f g (f.n.val * g.d.val + -g.n.val * f.d.val) (f.d.val * g.d.val))]).p (vs 60) X9 := hv 4 (by decide) rfl
                obtain ⟨u60, y60, p60, q60, e60, c60, k60⟩ := isL_two.1 t60
                have e61 : vs 61 = .int .i64 (rqe f g (f.n.val * g.d.val + -g.n.val * f.d.val) (f.d.val * g.d.val)) := hv 5 (by decide) rfl
                simp only [putAll, List.foldl_cons, List.foldl_nil, Act.put, List.setIfInBounds_toArray, List.set_cons_succ, List.set_cons_zero, List.drop_succ_cons, List.drop_zero, e60, e61]
                generalize vs 57 = s57
                generalize vs 58 = s58
                generalize vs 59 = s59
                generalize vs 56 = s56
                refine wpList_st rfl rfl rfl rfl rfl (sto_R c60 k60 (HE.out.get 2 rfl)) ?_
                have HE' : Env (putAt (putAt X9 g9 0 u60 y60) g9 2 p60 q60) [⟨w.heap.size, 58, [rC f.n, rC f.d]⟩, ⟨w.heap.size + 1, 58, [rC g.n, rC g.d]⟩, ⟨g9, 58, [zC (rqn f g (f.n.val * g.d.val + -g.n.val * f.d.val) (f.d.val * g.d.val)), zC (rqd f g (f.n.val * g.d.val + -g.n.val * f.d.val) (f.d.val * g.d.val))]⟩, ⟨g10, 58, [zC (rqn f g (f.n.val * g.d.val + g.n.val * f.d.val) (f.d.val * g.d.val)), zC (rqd f g (f.n.val * g.d.val + g.n.val * f.d.val) (f.d.val * g.d.val))]⟩] := HE.out.put4 2 rfl c60 k60
                have HB' := below_put4 (u := u60) (v := y60) (u' := p60) (v' := q60) HB.out (show w.heap.size ≤ g9 from G9.out)
                generalize putAt (putAt X9 g9 0 u60 y60) g9 2 p60 q60 = X10 at *
                replace HE := Hd.mk HE'
                replace HB := Hd.mk HB'
                clear HE' HB'
                clear hv hal hne hb
                go_upto_region 10 with fail
                refine wp_region_vd 6 [63, 64, 65, 62, 66, 67] [3, 4, 5] [] 70 [.bool false, .slice none 0 0] [isL [rC f.n, rC f.d], isL [rC g.n, rC g.d], isP (isL [zC (rqn f g (f.n.val * g.d.val + -g.n.val * f.d.val) (f.d.val * g.d.val)), zC (rqd f g (f.n.val * g.d.val + -g.n.val * f.d.val) (f.d.val * g.d.val))]) (isV (.int .i64 (rqe f g (f.n.val * g.d.val + -g.n.val * f.d.val) (f.d.val * g.d.val)))), isP (isL [zC (rqn f g (f.n.val * g.d.val + -g.n.val * f.d.val) (f.d.val * g.d.val)), zC (rqd f g (f.n.val * g.d.val + -g.n.val * f.d.val) (f.d.val * g.d.val))]) (isV (.int .i64 (rqe f g (f.n.val * g.d.val + -g.n.val * f.d.val) (f.d.val * g.d.val)))), isL [zC (rqn f g (f.n.val * g.d.val + -g.n.val * f.d.val) (f.d.val * g.d.val)), zC (rqd f g (f.n.val * g.d.val + -g.n.val * f.d.val) (f.d.val * g.d.val))], isV (.int .i64 (rqe f g (f.n.val * g.d.val + -g.n.val * f.d.val) (f.d.val * g.d.val)))] (by rfl) alloc_whole ?_ ?_
                · intro i hi hA aa wx hb hs hd
                  match i, hi, hA with
                  | 0, _, _ => exact .inl ⟨rfl, op_ldR rfl rfl (hs 2 rfl) ((HE.out.to hb).get 0 rfl)⟩
                  | 1, _, _ => exact .inl ⟨rfl, op_ldR rfl rfl (hs 3 rfl) ((HE.out.to hb).get 1 rfl)⟩
                  | 2, _, _ => exact .inl ⟨rfl, op_call2 rfl rfl Try.call60 (rSub_got f g _ _ _ (hd 0 rfl) (hd 1 rfl))⟩
                  | 3, _, _ => exact .inl ⟨rfl, op_mv rfl (hd 2 rfl)⟩
                  | 4, _, _ => exact .inl ⟨rfl, op_fst rfl (hd 3 rfl)⟩
                  | 5, _, _ => exact .inl ⟨rfl, op_snd rfl (hd 3 rfl)⟩
                  | i + 6, h, _ => omega
                · intro vs X11 hb hv hal hne
                  replace HB := Hd.mk (bel_then HB.out hb)
                  replace HE : Hd (Env X11 [⟨w.heap.size, 58, [rC f.n, rC f.d]⟩, ⟨w.heap.size + 1, 58, [rC g.n, rC g.d]⟩, ⟨g9, 58, [zC (rqn f g (f.n.val * g.d.val + -g.n.val * f.d.val) (f.d.val * g.d.val)), zC (rqd f g (f.n.val * g.d.val + -g.n.val * f.d.val) (f.d.val * g.d.val))]⟩, ⟨g10, 58, [zC (rqn f g (f.n.val * g.d.val + g.n.val * f.d.val) (f.d.val * g.d.val)), zC (rqd f g (f.n.val * g.d.val + g.n.val * f.d.val) (f.d.val * g.d.val))]⟩]) := ⟨HE.out.to hb⟩
                  have t66 : (isL [zC (rqn f g (f.n.val * g.d.val + -g.n.val * f.d.val) (f.d.val * g.d.val)), zC (rqd f g (f.n.val * g.d.val + -g.n.val * f.d.val) (f.d.val * g.d.val))]).p (vs 66) X11 := hv 4 (by decide) rfl
                  obtain ⟨u66, y66, p66, q66, e66, c66, k66⟩ := isL_two.1 t66
                  have e67 : vs 67 = .int .i64 (rqe f g (f.n.val * g.d.val + -g.n.val * f.d.val) (f.d.val * g.d.val)) := hv 5 (by decide) rfl
                  simp only [putAll, List.foldl_cons, List.foldl_nil, Act.put, List.setIfInBounds_toArray, List.set_cons_succ, List.set_cons_zero, List.drop_succ_cons, List.drop_zero, e66, e67]
                  generalize vs 63 = s63
                  generalize vs 64 = s64
                  generalize vs 65 = s65
                  generalize vs 62 = s62
                  refine wpList_st rfl rfl rfl rfl rfl (sto_R c66 k66 (HE.out.get 3 rfl)) ?_
                  have HE' : Env (putAt (putAt X11 g10 0 u66 y66) g10 2 p66 q66) [⟨w.heap.size, 58, [rC f.n, rC f.d]⟩, ⟨w.heap.size + 1, 58, [rC g.n, rC g.d]⟩, ⟨g9, 58, [zC (rqn f g (f.n.val * g.d.val + -g.n.val * f.d.val) (f.d.val * g.d.val)), zC (rqd f g (f.n.val * g.d.val + -g.n.val * f.d.val) (f.d.val * g.d.val))]⟩, ⟨g10, 58, [zC (rqn f g (f.n.val * g.d.val + -g.n.val * f.d.val) (f.d.val * g.d.val)), zC (rqd f g (f.n.val * g.d.val + -g.n.val * f.d.val) (f.d.val * g.d.val))]⟩] := HE.out.put4 3 rfl c66 k66
                  have HB' := below_put4 (u := u66) (v := y66) (u' := p66) (v' := q66) HB.out (show w.heap.size ≤ g10 from G10.out)
                  generalize putAt (putAt X11 g10 0 u66 y66) g10 2 p66 q66 = X12 at *
                  replace HE := Hd.mk HE'
                  replace HB := Hd.mk HB'
                  clear HE' HB'
                  clear hv hal hne hb
                  go_upto_region 11 with fail
                  refine wp_region_vd 9 [68, 69, 70, 71, 72, 73, 74, 75, 76] [3, 4, 5, 6, 7, 8] [] 70 [.bool false, .slice none 0 0] [isL [zC (rqn f g (f.n.val * g.d.val + -g.n.val * f.d.val) (f.d.val * g.d.val)), zC (rqd f g (f.n.val * g.d.val + -g.n.val * f.d.val) (f.d.val * g.d.val))], isL [zC (rqn f g (f.n.val * g.d.val + -g.n.val * f.d.val) (f.d.val * g.d.val)), zC (rqd f g (f.n.val * g.d.val + -g.n.val * f.d.val) (f.d.val * g.d.val))], isV (.bool true), isV (.bool false), isV (.bool false), isV (.int .i64 (rqe f g (f.n.val * g.d.val + -g.n.val * f.d.val) (f.d.val * g.d.val))), isV (.int .i64 (rqe f g (f.n.val * g.d.val + -g.n.val * f.d.val) (f.d.val * g.d.val))), isV (.bool false), isV (.bool false)] (by rfl) alloc_whole ?_ ?_
                  · intro i hi hA aa wx hb hs hd
                    match i, hi, hA with
                    | 0, _, _ => exact .inl ⟨rfl, op_ldR rfl rfl (hs 9 rfl) ((HE.out.to hb).get 2 rfl)⟩
                    | 1, _, _ => exact .inl ⟨rfl, op_ldR rfl rfl (hs 10 rfl) ((HE.out.to hb).get 3 rfl)⟩
                    | 2, _, _ => exact .inl ⟨rfl, op_call2 rfl rfl Try.call54 (SameRat_got (rqn f g (f.n.val * g.d.val + -g.n.val * f.d.val) (f.d.val * g.d.val)) (rqd f g (f.n.val * g.d.val + -g.n.val * f.d.val) (f.d.val * g.d.val)) _ _ _ (hd 0 rfl) (hd 1 rfl))⟩
                    | 3, _, _ => exact .inl ⟨rfl, ⟨_, op_not rfl (hd 2 rfl), rfl⟩⟩
                    | 4, _, _ => exact .inl ⟨rfl, op_mv rfl (hd 3 rfl)⟩
                    | 5, _, _ => exact .inl ⟨⟨rfl, hd 4 rfl⟩, op_mv rfl (hs 6 rfl)⟩
                    | 6, _, _ => exact .inl ⟨⟨rfl, hd 4 rfl⟩, op_mv rfl (hs 8 rfl)⟩
                    | 7, _, _ => exact .inl ⟨⟨rfl, hd 4 rfl⟩, ⟨_, op_neqSE rfl (hd 5 rfl) (hd 6 rfl), rfl⟩⟩
                    | 8, _, _ => exact .inl ⟨rfl, ⟨_, op_pickF rfl (hd 4 rfl) (hd 7 rfl), rfl⟩⟩
                    | i + 9, h, _ => omega
                  · intro vs X13 hb hv hal hne
                    replace HB := Hd.mk (bel_then HB.out hb)
                    replace HE : Hd (Env X13 [⟨w.heap.size, 58, [rC f.n, rC f.d]⟩, ⟨w.heap.size + 1, 58, [rC g.n, rC g.d]⟩, ⟨g9, 58, [zC (rqn f g (f.n.val * g.d.val + -g.n.val * f.d.val) (f.d.val * g.d.val)), zC (rqd f g (f.n.val * g.d.val + -g.n.val * f.d.val) (f.d.val * g.d.val))]⟩, ⟨g10, 58, [zC (rqn f g (f.n.val * g.d.val + -g.n.val * f.d.val) (f.d.val * g.d.val)), zC (rqd f g (f.n.val * g.d.val + -g.n.val * f.d.val) (f.d.val * g.d.val))]⟩]) := ⟨HE.out.to hb⟩
                    have e76 : vs 76 = .bool false := hv 8 (by decide) rfl
                    simp only [putAll, List.foldl_cons, List.foldl_nil, Act.put, List.setIfInBounds_toArray, List.set_cons_succ, List.set_cons_zero, List.drop_succ_cons, List.drop_zero, e76]
                    generalize vs 68 = s68
                    generalize vs 69 = s69
                    generalize vs 70 = s70
                    generalize vs 71 = s71
                    generalize vs 72 = s72
                    generalize vs 73 = s73
                    generalize vs 74 = s74
                    generalize vs 75 = s75
                    clear hv hal hne hb
                    go_upto_region 13 with fail
                    refine wp_region_vd 6 [78, 79, 80, 77, 81, 82] [3, 4, 5] [] 70 [.bool false, .slice none 0 0] [isL [rC f.n, rC f.d], isL [rC g.n, rC g.d], isP (isL [zC (rqn f g (f.n.val * g.n.val) (f.d.val * g.d.val)), zC (rqd f g (f.n.val * g.n.val) (f.d.val * g.d.val))]) (isV (.int .i64 (rqe f g (f.n.val * g.n.val) (f.d.val * g.d.val)))), isP (isL [zC (rqn f g (f.n.val * g.n.val) (f.d.val * g.d.val)), zC (rqd f g (f.n.val * g.n.val) (f.d.val * g.d.val))]) (isV (.int .i64 (rqe f g (f.n.val * g.n.val) (f.d.val * g.d.val)))), isL [zC (rqn f g (f.n.val * g.n.val) (f.d.val * g.d.val)), zC (rqd f g (f.n.val * g.n.val) (f.d.val * g.d.val))], isV (.int .i64 (rqe f g (f.n.val * g.n.val) (f.d.val * g.d.val)))] (by rfl) alloc_whole ?_ ?_
                    · intro i hi hA aa wx hb hs hd
                      match i, hi, hA with
                      | 0, _, _ => exact .inl ⟨rfl, op_ldR rfl rfl (hs 2 rfl) ((HE.out.to hb).get 0 rfl)⟩
                      | 1, _, _ => exact .inl ⟨rfl, op_ldR rfl rfl (hs 3 rfl) ((HE.out.to hb).get 1 rfl)⟩
                      | 2, _, _ => exact .inl ⟨rfl, op_call2 rfl rfl Try.call52 (RatMul_got f g _ _ _ (hd 0 rfl) (hd 1 rfl))⟩
                      | 3, _, _ => exact .inl ⟨rfl, op_mv rfl (hd 2 rfl)⟩
                      | 4, _, _ => exact .inl ⟨rfl, op_fst rfl (hd 3 rfl)⟩
                      | 5, _, _ => exact .inl ⟨rfl, op_snd rfl (hd 3 rfl)⟩
                      | i + 6, h, _ => omega
                    · intro vs X14 hb hv hal hne
                      replace HB := Hd.mk (bel_then HB.out hb)
                      replace HE : Hd (Env X14 [⟨w.heap.size, 58, [rC f.n, rC f.d]⟩, ⟨w.heap.size + 1, 58, [rC g.n, rC g.d]⟩, ⟨g9, 58, [zC (rqn f g (f.n.val * g.d.val + -g.n.val * f.d.val) (f.d.val * g.d.val)), zC (rqd f g (f.n.val * g.d.val + -g.n.val * f.d.val) (f.d.val * g.d.val))]⟩, ⟨g10, 58, [zC (rqn f g (f.n.val * g.d.val + -g.n.val * f.d.val) (f.d.val * g.d.val)), zC (rqd f g (f.n.val * g.d.val + -g.n.val * f.d.val) (f.d.val * g.d.val))]⟩]) := ⟨HE.out.to hb⟩
                      have t81 : (isL [zC (rqn f g (f.n.val * g.n.val) (f.d.val * g.d.val)), zC (rqd f g (f.n.val * g.n.val) (f.d.val * g.d.val))]).p (vs 81) X14 := hv 4 (by decide) rfl
                      obtain ⟨u81, y81, p81, q81, e81, c81, k81⟩ := isL_two.1 t81
                      have e82 : vs 82 = .int .i64 (rqe f g (f.n.val * g.n.val) (f.d.val * g.d.val)) := hv 5 (by decide) rfl
                      simp only [putAll, List.foldl_cons, List.foldl_nil, Act.put, List.setIfInBounds_toArray, List.set_cons_succ, List.set_cons_zero, List.drop_succ_cons, List.drop_zero, e81, e82]
                      generalize vs 78 = s78
                      generalize vs 79 = s79
                      generalize vs 80 = s80
                      generalize vs 77 = s77
                      refine wpList_st rfl rfl rfl rfl rfl (sto_R c81 k81 (HE.out.get 2 rfl)) ?_
                      have HE' : Env (putAt (putAt X14 g9 0 u81 y81) g9 2 p81 q81) [⟨w.heap.size, 58, [rC f.n, rC f.d]⟩, ⟨w.heap.size + 1, 58, [rC g.n, rC g.d]⟩, ⟨g9, 58, [zC (rqn f g (f.n.val * g.n.val) (f.d.val * g.d.val)), zC (rqd f g (f.n.val * g.n.val) (f.d.val * g.d.val))]⟩, ⟨g10, 58, [zC (rqn f g (f.n.val * g.d.val + -g.n.val * f.d.val) (f.d.val * g.d.val)), zC (rqd f g (f.n.val * g.d.val + -g.n.val * f.d.val) (f.d.val * g.d.val))]⟩] := HE.out.put4 2 rfl c81 k81
                      have HB' := below_put4 (u := u81) (v := y81) (u' := p81) (v' := q81) HB.out (show w.heap.size ≤ g9 from G9.out)
                      generalize putAt (putAt X14 g9 0 u81 y81) g9 2 p81 q81 = X15 at *
                      replace HE := Hd.mk HE'
                      replace HB := Hd.mk HB'
                      clear HE' HB'
                      clear hv hal hne hb
                      go_upto_region 14 with fail
                      refine wp_region_vd 6 [84, 85, 86, 83, 87, 88] [3, 4, 5] [] 70 [.bool false, .slice none 0 0] [isL [rC f.n, rC f.d], isL [rC g.n, rC g.d], isP (isL [zC (rqn f g (f.n.val * g.n.val) (f.d.val * g.d.val)), zC (rqd f g (f.n.val * g.n.val) (f.d.val * g.d.val))]) (isV (.int .i64 (rqe f g (f.n.val * g.n.val) (f.d.val * g.d.val)))), isP (isL [zC (rqn f g (f.n.val * g.n.val) (f.d.val * g.d.val)), zC (rqd f g (f.n.val * g.n.val) (f.d.val * g.d.val))]) (isV (.int .i64 (rqe f g (f.n.val * g.n.val) (f.d.val * g.d.val)))), isL [zC (rqn f g (f.n.val * g.n.val) (f.d.val * g.d.val)), zC (rqd f g (f.n.val * g.n.val) (f.d.val * g.d.val))], isV (.int .i64 (rqe f g (f.n.val * g.n.val) (f.d.val * g.d.val)))] (by rfl) alloc_whole ?_ ?_
                      · intro i hi hA aa wx hb hs hd
                        match i, hi, hA with
                        | 0, _, _ => exact .inl ⟨rfl, op_ldR rfl rfl (hs 2 rfl) ((HE.out.to hb).get 0 rfl)⟩
                        | 1, _, _ => exact .inl ⟨rfl, op_ldR rfl rfl (hs 3 rfl) ((HE.out.to hb).get 1 rfl)⟩
                        | 2, _, _ => exact .inl ⟨rfl, op_call2 rfl rfl Try.call61 (rMul_got f g _ _ _ (hd 0 rfl) (hd 1 rfl))⟩
                        | 3, _, _ => exact .inl ⟨rfl, op_mv rfl (hd 2 rfl)⟩
                        | 4, _, _ => exact .inl ⟨rfl, op_fst rfl (hd 3 rfl)⟩
                        | 5, _, _ => exact .inl ⟨rfl, op_snd rfl (hd 3 rfl)⟩
                        | i + 6, h, _ => omega
                      · intro vs X16 hb hv hal hne
                        replace HB := Hd.mk (bel_then HB.out hb)
                        replace HE : Hd (Env X16 [⟨w.heap.size, 58, [rC f.n, rC f.d]⟩, ⟨w.heap.size + 1, 58, [rC g.n, rC g.d]⟩, ⟨g9, 58, [zC (rqn f g (f.n.val * g.n.val) (f.d.val * g.d.val)), zC (rqd f g (f.n.val * g.n.val) (f.d.val * g.d.val))]⟩, ⟨g10, 58, [zC (rqn f g (f.n.val * g.d.val + -g.n.val * f.d.val) (f.d.val * g.d.val)), zC (rqd f g (f.n.val * g.d.val + -g.n.val * f.d.val) (f.d.val * g.d.val))]⟩]) := ⟨HE.out.to hb⟩
                        have t87 : (isL [zC (rqn f g (f.n.val * g.n.val) (f.d.val * g.d.val)), zC (rqd f g (f.n.val * g.n.val) (f.d.val * g.d.val))]).p (vs 87) X16 := hv 4 (by decide) rfl
                        obtain ⟨u87, y87, p87, q87, e87, c87, k87⟩ := isL_two.1 t87
                        have e88 : vs 88 = .int .i64 (rqe f g (f.n.val * g.n.val) (f.d.val * g.d.val)) := hv 5 (by decide) rfl
                        simp only [putAll, List.foldl_cons, List.foldl_nil, Act.put, List.setIfInBounds_toArray, List.set_cons_succ, List.set_cons_zero, List.drop_succ_cons, List.drop_zero, e87, e88]
                        generalize vs 84 = s84
                        generalize vs 85 = s85
                        generalize vs 86 = s86
                        generalize vs 83 = s83
                        refine wpList_st rfl rfl rfl rfl rfl (sto_R c87 k87 (HE.out.get 3 rfl)) ?_
                        have HE' : Env (putAt (putAt X16 g10 0 u87 y87) g10 2 p87 q87) [⟨w.heap.size, 58, [rC f.n, rC f.d]⟩, ⟨w.heap.size + 1, 58, [rC g.n, rC g.d]⟩, ⟨g9, 58, [zC (rqn f g (f.n.val * g.n.val) (f.d.val * g.d.val)), zC (rqd f g (f.n.val * g.n.val) (f.d.val * g.d.val))]⟩, ⟨g10, 58, [zC (rqn f g (f.n.val * g.n.val) (f.d.val * g.d.val)), zC (rqd f g (f.n.val * g.n.val) (f.d.val * g.d.val))]⟩] := HE.out.put4 3 rfl c87 k87
                        have HB' := below_put4 (u := u87) (v := y87) (u' := p87) (v' := q87) HB.out (show w.heap.size ≤ g10 from G10.out)
                        generalize putAt (putAt X16 g10 0 u87 y87) g10 2 p87 q87 = X17 at *
                        replace HE := Hd.mk HE'
                        replace HB := Hd.mk HB'
                        clear HE' HB'
                        clear hv hal hne hb
                        go_upto_region 15 with fail
                        refine wp_region_vd 9 [89, 90, 91, 92, 93, 94, 95, 96, 97] [3, 4, 5, 6, 7, 8] [] 70 [.bool false, .slice none 0 0] [isL [zC (rqn f g (f.n.val * g.n.val) (f.d.val * g.d.val)), zC (rqd f g (f.n.val * g.n.val) (f.d.val * g.d.val))], isL [zC (rqn f g (f.n.val * g.n.val) (f.d.val * g.d.val)), zC (rqd f g (f.n.val * g.n.val) (f.d.val * g.d.val))], isV (.bool true), isV (.bool false), isV (.bool false), isV (.int .i64 (rqe f g (f.n.val * g.n.val) (f.d.val * g.d.val))), isV (.int .i64 (rqe f g (f.n.val * g.n.val) (f.d.val * g.d.val))), isV (.bool false), isV (.bool false)] (by rfl) alloc_whole ?_ ?_
                        · intro i hi hA aa wx hb hs hd
                          match i, hi, hA with
                          | 0, _, _ => exact .inl ⟨rfl, op_ldR rfl rfl (hs 9 rfl) ((HE.out.to hb).get 2 rfl)⟩
                          | 1, _, _ => exact .inl ⟨rfl, op_ldR rfl rfl (hs 10 rfl) ((HE.out.to hb).get 3 rfl)⟩
                          | 2, _, _ => exact .inl ⟨rfl, op_call2 rfl rfl Try.call54 (SameRat_got (rqn f g (f.n.val * g.n.val) (f.d.val * g.d.val)) (rqd f g (f.n.val * g.n.val) (f.d.val * g.d.val)) _ _ _ (hd 0 rfl) (hd 1 rfl))⟩
                          | 3, _, _ => exact .inl ⟨rfl, ⟨_, op_not rfl (hd 2 rfl), rfl⟩⟩
                          | 4, _, _ => exact .inl ⟨rfl, op_mv rfl (hd 3 rfl)⟩
                          | 5, _, _ => exact .inl ⟨⟨rfl, hd 4 rfl⟩, op_mv rfl (hs 6 rfl)⟩
                          | 6, _, _ => exact .inl ⟨⟨rfl, hd 4 rfl⟩, op_mv rfl (hs 8 rfl)⟩
                          | 7, _, _ => exact .inl ⟨⟨rfl, hd 4 rfl⟩, ⟨_, op_neqSE rfl (hd 5 rfl) (hd 6 rfl), rfl⟩⟩
                          | 8, _, _ => exact .inl ⟨rfl, ⟨_, op_pickF rfl (hd 4 rfl) (hd 7 rfl), rfl⟩⟩
                          | i + 9, h, _ => omega
                        · intro vs X18 hb hv hal hne
                          replace HB := Hd.mk (bel_then HB.out hb)
                          replace HE : Hd (Env X18 [⟨w.heap.size, 58, [rC f.n, rC f.d]⟩, ⟨w.heap.size + 1, 58, [rC g.n, rC g.d]⟩, ⟨g9, 58, [zC (rqn f g (f.n.val * g.n.val) (f.d.val * g.d.val)), zC (rqd f g (f.n.val * g.n.val) (f.d.val * g.d.val))]⟩, ⟨g10, 58, [zC (rqn f g (f.n.val * g.n.val) (f.d.val * g.d.val)), zC (rqd f g (f.n.val * g.n.val) (f.d.val * g.d.val))]⟩]) := ⟨HE.out.to hb⟩
                          have e97 : vs 97 = .bool false := hv 8 (by decide) rfl
                          simp only [putAll, List.foldl_cons, List.foldl_nil, Act.put, List.setIfInBounds_toArray, List.set_cons_succ, List.set_cons_zero, List.drop_succ_cons, List.drop_zero, e97]
                          generalize vs 89 = s89
                          generalize vs 90 = s90
                          generalize vs 91 = s91
                          generalize vs 92 = s92
                          generalize vs 93 = s93
                          generalize vs 94 = s94
                          generalize vs 95 = s95
                          generalize vs 96 = s96
                          clear hv hal hne hb
                          go_upto_region 17 with fail
                          refine wp_region_vd 6 [99, 100, 101, 98, 102, 103] [3, 4, 5] [] 70 [.bool false, .slice none 0 0] [isL [rC f.n, rC f.d], isL [rC g.n, rC g.d], isP (isL [zC (rdn f g), zC (rdd f g)]) (isV (.int .i64 (rde f g))), isP (isL [zC (rdn f g), zC (rdd f g)]) (isV (.int .i64 (rde f g))), isL [zC (rdn f g), zC (rdd f g)], isV (.int .i64 (rde f g))] (by rfl) alloc_whole ?_ ?_
                          · intro i hi hA aa wx hb hs hd
                            match i, hi, hA with
                            | 0, _, _ => exact .inl ⟨rfl, op_ldR rfl rfl (hs 2 rfl) ((HE.out.to hb).get 0 rfl)⟩
                            | 1, _, _ => exact .inl ⟨rfl, op_ldR rfl rfl (hs 3 rfl) ((HE.out.to hb).get 1 rfl)⟩
                            | 2, _, _ => exact .inl ⟨rfl, op_call2 rfl rfl Try.call53 (RatDiv_got f g _ _ _ (hd 0 rfl) (hd 1 rfl))⟩
                            | 3, _, _ => exact .inl ⟨rfl, op_mv rfl (hd 2 rfl)⟩
                            | 4, _, _ => exact .inl ⟨rfl, op_fst rfl (hd 3 rfl)⟩
                            | 5, _, _ => exact .inl ⟨rfl, op_snd rfl (hd 3 rfl)⟩
                            | i + 6, h, _ => omega
                          · intro vs X19 hb hv hal hne
                            replace HB := Hd.mk (bel_then HB.out hb)
                            replace HE : Hd (Env X19 [⟨w.heap.size, 58, [rC f.n, rC f.d]⟩, ⟨w.heap.size + 1, 58, [rC g.n, rC g.d]⟩, ⟨g9, 58, [zC (rqn f g (f.n.val * g.n.val) (f.d.val * g.d.val)), zC (rqd f g (f.n.val * g.n.val) (f.d.val * g.d.val))]⟩, ⟨g10, 58, [zC (rqn f g (f.n.val * g.n.val) (f.d.val * g.d.val)), zC (rqd f g (f.n.val * g.n.val) (f.d.val * g.d.val))]⟩]) := ⟨HE.out.to hb⟩
                            have t102 : (isL [zC (rdn f g), zC (rdd f g)]).p (vs 102) X19 := hv 4 (by decide) rfl
                            obtain ⟨u102, y102, p102, q102, e102, c102, k102⟩ := isL_two.1 t102
                            have e103 : vs 103 = .int .i64 (rde f g) := hv 5 (by decide) rfl
                            simp only [putAll, List.foldl_cons, List.foldl_nil, Act.put, List.setIfInBounds_toArray, List.set_cons_succ, List.set_cons_zero, List.drop_succ_cons, List.drop_zero, e102, e103]
                            generalize vs 99 = s99
                            generalize vs 100 = s100
                            generalize vs 101 = s101
                            generalize vs 98 = s98
                            refine wpList_st rfl rfl rfl rfl rfl (sto_R c102 k102 (HE.out.get 2 rfl)) ?_
                            have HE' : Env (putAt (putAt X19 g9 0 u102 y102) g9 2 p102 q102) [⟨w.heap.size, 58, [rC f.n, rC f.d]⟩, ⟨w.heap.size + 1, 58, [rC g.n, rC g.d]⟩, ⟨g9, 58, [zC (rdn f g), zC (rdd f g)]⟩, ⟨g10, 58, [zC (rqn f g (f.n.val * g.n.val) (f.d.val * g.d.val)), zC (rqd f g (f.n.val * g.n.val) (f.d.val * g.d.val))]⟩] := HE.out.put4 2 rfl c102 k102
                            have HB' := below_put4 (u := u102) (v := y102) (u' := p102) (v' := q102) HB.out (show w.heap.size ≤ g9 from G9.out)
                            generalize putAt (putAt X19 g9 0 u102 y102) g9 2 p102 q102 = X20 at *
                            replace HE := Hd.mk HE'
                            replace HB := Hd.mk HB'
                            clear HE' HB'
                            clear hv hal hne hb
                            go_upto_region 18 with fail
                            refine wp_region_vd 6 [105, 106, 107, 104, 108, 109] [3, 4, 5] [] 70 [.bool false, .slice none 0 0] [isL [rC f.n, rC f.d], isL [rC g.n, rC g.d], isP (isL [zC (rdn f g), zC (rdd f g)]) (isV (.int .i64 (rde f g))), isP (isL [zC (rdn f g), zC (rdd f g)]) (isV (.int .i64 (rde f g))), isL [zC (rdn f g), zC (rdd f g)], isV (.int .i64 (rde f g))] (by rfl) alloc_whole ?_ ?_
                            · intro i hi hA aa wx hb hs hd
                              match i, hi, hA with
                              | 0, _, _ => exact .inl ⟨rfl, op_ldR rfl rfl (hs 2 rfl) ((HE.out.to hb).get 0 rfl)⟩
                              | 1, _, _ => exact .inl ⟨rfl, op_ldR rfl rfl (hs 3 rfl) ((HE.out.to hb).get 1 rfl)⟩
                              | 2, _, _ => exact .inl ⟨rfl, op_call2 rfl rfl Try.call62 (rDivR_got f g _ _ _ (hd 0 rfl) (hd 1 rfl))⟩
                              | 3, _, _ => exact .inl ⟨rfl, op_mv rfl (hd 2 rfl)⟩
                              | 4, _, _ => exact .inl ⟨rfl, op_fst rfl (hd 3 rfl)⟩
                              | 5, _, _ => exact .inl ⟨rfl, op_snd rfl (hd 3 rfl)⟩
                              | i + 6, h, _ => omega
                            · intro vs X21 hb hv hal hne
                              replace HB := Hd.mk (bel_then HB.out hb)
                              replace HE : Hd (Env X21 [⟨w.heap.size, 58, [rC f.n, rC f.d]⟩, ⟨w.heap.size + 1, 58, [rC g.n, rC g.d]⟩, ⟨g9, 58, [zC (rdn f g), zC (rdd f g)]⟩, ⟨g10, 58, [zC (rqn f g (f.n.val * g.n.val) (f.d.val * g.d.val)), zC (rqd f g (f.n.val * g.n.val) (f.d.val * g.d.val))]⟩]) := ⟨HE.out.to hb⟩
                              have t108 : (isL [zC (rdn f g), zC (rdd f g)]).p (vs 108) X21 := hv 4 (by decide) rfl
                              obtain ⟨u108, y108, p108, q108, e108, c108, k108⟩ := isL_two.1 t108
                              have e109 : vs 109 = .int .i64 (rde f g) := hv 5 (by decide) rfl
                              simp only [putAll, List.foldl_cons, List.foldl_nil, Act.put, List.setIfInBounds_toArray, List.set_cons_succ, List.set_cons_zero, List.drop_succ_cons, List.drop_zero, e108, e109]
                              generalize vs 105 = s105
                              generalize vs 106 = s106
                              generalize vs 107 = s107
                              generalize vs 104 = s104
                              refine wpList_st rfl rfl rfl rfl rfl (sto_R c108 k108 (HE.out.get 3 rfl)) ?_
                              have HE' : Env (putAt (putAt X21 g10 0 u108 y108) g10 2 p108 q108) [⟨w.heap.size, 58, [rC f.n, rC f.d]⟩, ⟨w.heap.size + 1, 58, [rC g.n, rC g.d]⟩, ⟨g9, 58, [zC (rdn f g), zC (rdd f g)]⟩, ⟨g10, 58, [zC (rdn f g), zC (rdd f g)]⟩] := HE.out.put4 3 rfl c108 k108
                              have HB' := below_put4 (u := u108) (v := y108) (u' := p108) (v' := q108) HB.out (show w.heap.size ≤ g10 from G10.out)
                              generalize putAt (putAt X21 g10 0 u108 y108) g10 2 p108 q108 = X22 at *
                              replace HE := Hd.mk HE'
                              replace HB := Hd.mk HB'
                              clear HE' HB'
                              clear hv hal hne hb
                              go_upto_region 19 with fail
                              refine wp_region_vd 8 [110, 111, 112, 113, 114, 115, 116, 117] [3, 4, 5, 6, 7] [] 70 [.bool false, .slice none 0 0] [isL [zC (rdn f g), zC (rdd f g)], isL [zC (rdn f g), zC (rdd f g)], isV (.bool true), isV (.bool true), isV (.int .i64 (rde f g)), isV (.int .i64 (rde f g)), isV (.bool true), isV (.bool true)] (by rfl) alloc_whole ?_ ?_
                              · intro i hi hA aa wx hb hs hd
                                match i, hi, hA with
                                | 0, _, _ => exact .inl ⟨rfl, op_ldR rfl rfl (hs 9 rfl) ((HE.out.to hb).get 2 rfl)⟩
                                | 1, _, _ => exact .inl ⟨rfl, op_ldR rfl rfl (hs 10 rfl) ((HE.out.to hb).get 3 rfl)⟩
                                | 2, _, _ => exact .inl ⟨rfl, op_call2 rfl rfl Try.call54 (SameRat_got (rdn f g) (rdd f g) _ _ _ (hd 0 rfl) (hd 1 rfl))⟩
                                | 3, _, _ => exact .inl ⟨rfl, op_mv rfl (hd 2 rfl)⟩
                                | 4, _, _ => exact .inl ⟨⟨rfl, hd 3 rfl⟩, op_mv rfl (hs 6 rfl)⟩
                                | 5, _, _ => exact .inl ⟨⟨rfl, hd 3 rfl⟩, op_mv rfl (hs 8 rfl)⟩
                                | 6, _, _ => exact .inl ⟨⟨rfl, hd 3 rfl⟩, ⟨_, op_eqlSE rfl (hd 4 rfl) (hd 5 rfl), rfl⟩⟩
                                | 7, _, _ => exact .inl ⟨rfl, ⟨_, op_pickT rfl (hd 3 rfl) (hd 6 rfl), rfl⟩⟩
                                | i + 8, h, _ => omega
                              · intro vs X23 hb hv hal hne
                                replace HB := Hd.mk (bel_then HB.out hb)
                                replace HE : Hd (Env X23 [⟨w.heap.size, 58, [rC f.n, rC f.d]⟩, ⟨w.heap.size + 1, 58, [rC g.n, rC g.d]⟩, ⟨g9, 58, [zC (rdn f g), zC (rdd f g)]⟩, ⟨g10, 58, [zC (rdn f g), zC (rdd f g)]⟩]) := ⟨HE.out.to hb⟩
                                have e117 : vs 117 = .bool true := hv 7 (by decide) rfl
                                simp only [putAll, List.foldl_cons, List.foldl_nil, Act.put, List.setIfInBounds_toArray, List.set_cons_succ, List.set_cons_zero, List.drop_succ_cons, List.drop_zero, e117]
                                generalize vs 110 = s110
                                generalize vs 111 = s111
                                generalize vs 112 = s112
                                generalize vs 113 = s113
                                generalize vs 114 = s114
                                generalize vs 115 = s115
                                generalize vs 116 = s116
                                clear hv hal hne hb
                                go_wp2_with fail
                                go_ret
                                exact ⟨_, rfl, HB.out, rfl⟩
end Go.Proofs.Ytcjcpfafalkceaa
