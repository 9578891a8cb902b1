/- Part 8 of the texts behind this claim. -/
import Derived.Test.YtddbmckbankmeaaKs7
set_option linter.unusedVariables false
set_option linter.unusedSimpArgs false
namespace Go.Proofs.Ytddbmckbankmeaa
open Go.RowKit
section
variable {P : Program} {Q : Exit → Act → World → Prop} {ops : Array Oper} {rest : List Oper} {o : Oper} {a : Act} {w : World} {v : Value}
theorem wpList_run (hg : o.guard = none) (hr : (execOp a.eval o).run P w = .ok (.value v) w) (h : wpList P ops Q rest (a.put o.dst v) w) : wpList P ops Q (o :: rest) a w := by
  unfold wpList
  rw [if_pos (by simp [Region.wanted, hg])]
  refine .inl ?_
  unfold Oper.wp
  rw [hr]
  exact h
end
section
variable {Q : Exit → Act → World → Prop} {o : Oper} {a : Act} {w : World} {d : Nat} {x y : Operand} {b1 : Int} {c : Bool} {n1 n2 : Int}
theorem op_buM0 (ho : o.op = .build 31 #[(0, x)]) (h0 : a.eval x = .int .i64 b1) (w : World) : (execOp a.eval o).run Try.prog w = .ok (.value (.agg #[.int .i64 b1, .int .i64 0, .int .i64 0, .bool false])) w := by
  generalize a.eval = ev at h0 ⊢
  unfold execOp
  simp only [ho]
  simp [go_sem, h0]
theorem op_buM2 (ho : o.op = .build 31 #[(2, x)]) (h0 : a.eval x = .int .i64 b1) (w : World) : (execOp a.eval o).run Try.prog w = .ok (.value (.agg #[.int .i64 0, .int .i64 0, .int .i64 b1, .bool false])) w := by
  generalize a.eval = ev at h0 ⊢
  unfold execOp
  simp only [ho]
  simp [go_sem, h0]
theorem op_buM23 (ho : o.op = .build 31 #[(2, x), (3, y)]) (h0 : a.eval x = .int .i64 b1) (h1 : a.eval y = .bool c) (w : World) : (execOp a.eval o).run Try.prog w = .ok (.value (.agg #[.int .i64 0, .int .i64 0, .int .i64 b1, .bool c])) w := by
  generalize a.eval = ev at h0 h1 ⊢
  unfold execOp
  simp only [ho]
  simp [go_sem, h0, h1]
theorem op_lit2 (ho : o.op = .buildSlice 22 2 #[(0, .const (.int .i64 n1)), (1, .const (.int .i64 n2))]) (hd : o.dst = some d) (lo : Nat) (hl : lo ≤ w.heap.size) : o.wp Try.prog a w (Post a w d (isF lo [n1, n2]).p) Q := by
  have hr : (execOp a.eval o).run Try.prog w = .ok (.value (.slice (some ⟨w.heap.size, 0, none⟩) 2 2)) (w.alloc (.cells #[.int .i64 n1, .int .i64 n2] 3)) := by
    have h1 : a.eval (.const (.int .i64 n1)) = .int .i64 n1 := rfl
    have h2 : a.eval (.const (.int .i64 n2)) = .int .i64 n2 := rfl
    generalize a.eval = ev at h1 h2 ⊢
    unfold execOp
    simp only [ho]
    simp [go_sem, h1, h2]
  unfold Oper.wp
  rw [hr]
  show Post a w d _ (a.put o.dst _) _
  rw [hd]
  have hB : Blk (w.alloc (.cells #[.int .i64 n1, .int .i64 n2] 3)) w.heap.size 3 [.int .i64 n1, .int .i64 n2] := heap_alloc_new _ _
  exact ⟨_, rfl, below_alloc (Below.refl _ _) _, w.heap.size, 2, [], rfl, hl, Nat.le_refl _, by omega, by simpa [ints] using hB⟩
end
theorem valid_some {w : World} {A : Option Addr} {xs : List Int} {W H : Int} (hr : RI w A xs) (h : validB W H xs = true) : ∃ ad, A = some ad := by
  unfold validB at h
  simp only [Bool.and_eq_true, decide_eq_true_eq] at h
  obtain ⟨hw, hh⟩ := sizeB_bounds h.1
  have h1 : 1 * 1 ≤ W * H := Int.mul_le_mul hw.1 hh.1 (by omega) (by omega)
  obtain ⟨ad, e, _⟩ := hr.at_ (k := 0) (by omega)
  exact ⟨ad, e⟩
theorem valid_len {xs : List Int} {W H : Int} (h : validB W H xs = true) : (xs.length : Int) = W * H := by
  unfold validB at h
  simp only [Bool.and_eq_true, decide_eq_true_eq] at h
  exact h.2.1
theorem valid_size {xs : List Int} {W H : Int} (h : validB W H xs = true) : sizeB W H = true := by
  unfold validB at h
  simp only [Bool.and_eq_true] at h
  exact h.1
theorem valid_no {xs : List Int} {W H : Int} {q : Nat} (h : badc (xs.getD q 0) = true) (hq : q < xs.length) : validB W H xs = false := by
  have : xs.any badc = true := by
    rw [List.any_eq_true]
    exact ⟨xs[q], List.getElem_mem hq, by rwa [show xs.getD q 0 = xs[q] by simp [hq]] at h⟩
  unfold validB
  rw [this]
  simp
theorem valid_yes {xs : List Int} {W H : Int} (h1 : sizeB W H = true) (h2 : (xs.length : Int) = W * H) (h : ∀ j : Nat, j < xs.length → badc (xs.getD j 0) = false) : validB W H xs = true := by
  have : xs.any badc = false := by
    rw [List.any_eq_false]
    intro x hx
    obtain ⟨j, hj, rfl⟩ := List.getElem_of_mem hx
    have := h j hj
    simpa [hj] using this
  unfold validB
  rw [this, h1, decide_eq_true h2]
  rfl
def ivt (t : Int) (f : Bool) : Int := if f = true then t else (4 - t) % 4
def ivp (x y t : Int) (f : Bool) : Int × Int := trn f (-x) (-y) (ivt t f).toNat
set_option maxRecDepth 100000 in
set_option maxHeartbeats 1000000 in
theorem rValid_got (Wd Ht : Int) (A : Option Addr) (k : Nat) (xs : List Int) (w : World) (hri : RI w A xs) :
    Calls Try.prog 17 #[.agg #[.int .i64 Wd, .int .i64 Ht, .slice A xs.length k]] w (Got w (isV (.bool (validB Wd Ht xs))).p) := by
  have HRI := Hd.mk hri
  clear hri
  by_cases h1 : sizeB Wd Ht = true
  · have m1 := size_mul h1
    have K1 := Hd.mk h1
    by_cases h2 : (xs.length : Int) = Wd * Ht
    · have K2 : Hd ((!decide (((xs.length : Nat) : Int) = Wd * Ht)) = false) := ⟨by rw [decide_eq_true h2]; rfl⟩
      have hl : xs.length ≤ 64 := by omega
      have K4 := Hd.mk h2
      clear h1 h2
      go_enter Try.func17, Try.ntmps17
      go_upto_region 1 with fail
      obtain ⟨W0, hW0⟩ : ∃ W : World, W = w.alloc (.cells #[.int .i64 Wd, .int .i64 Ht, .slice A xs.length k] 24) := ⟨_, rfl⟩
      rw [← hW0]
      obtain ⟨he, hb⟩ := env_one hW0
      have HE := Hd.mk he
      have HB := Hd.mk hb
      clear he hb hW0
      refine wp_region_vd 17 [5, 6, 7, 8, 9, 10, 11, 12, 13, 14, 15, 16, 17, 18, 19, 20, 21] [0, 2, 5, 6, 7, 10, 12, 14, 15, 16] [] 84 [.int .i64 0, .int .i64 0] [isV (.pointer (some ⟨w.heap.size, 0, none⟩)), isV (.int .i64 Wd), isV (.pointer (some ⟨w.heap.size, 1, none⟩)), isV (.int .i64 Ht), isV (.bool true), isV (.bool false), isV (.bool false), isV (.pointer (some ⟨w.heap.size, 2, none⟩)), isV (.slice A xs.length k), isV (.int .i64 (((xs.length : Nat) : Int))), isV (.pointer (some ⟨w.heap.size, 0, none⟩)), isV (.int .i64 Wd), isV (.pointer (some ⟨w.heap.size, 1, none⟩)), isV (.int .i64 Ht), isV (.int .i64 (Wd * Ht)), isV (.bool false), isV (.bool false)] (by rfl) alloc_Z ?_ ?_
      · intro qi qh qA aa wx hb hs hd
        match qi, qh, qA with
        | 0, _, _ => exact .inl ⟨rfl, ⟨_, op_faU0 rfl (hs 1 rfl), rfl⟩⟩
        | 1, _, _ => exact .inl ⟨rfl, op_ldI rfl rfl (hd 0 rfl) ((HE.out.to hb).cell 0 0 rfl rfl)⟩
        | 2, _, _ => exact .inl ⟨rfl, ⟨_, op_faU1 rfl (hs 1 rfl), rfl⟩⟩
        | 3, _, _ => exact .inl ⟨rfl, op_ldI rfl rfl (hd 2 rfl) ((HE.out.to hb).cell 0 1 rfl rfl)⟩
        | 4, _, _ => exact .inl ⟨rfl, wp_b (bool_eq K1.out) (op_call2 rfl rfl Try.call25 (by rw [(show aa.eval (.tmp 6) = .int .i64 Wd from (hd 1 rfl)), (show aa.eval (.tmp 8) = .int .i64 Ht from (hd 3 rfl))]; exact rSize_got Wd Ht _))⟩
        | 5, _, _ => exact .inl ⟨rfl, ⟨_, op_not rfl (hd 4 rfl), rfl⟩⟩
        | 6, _, _ => exact .inl ⟨rfl, op_mv rfl (hd 5 rfl)⟩
        | 7, _, _ => exact .inl ⟨⟨rfl, .inl (hd 6 rfl)⟩, ⟨_, op_faU2 rfl (hs 1 rfl), rfl⟩⟩
        | 8, _, _ => exact .inl ⟨⟨rfl, .inl (hd 6 rfl)⟩, op_ldS rfl rfl (hd 7 rfl) ((HE.out.to hb).cell 0 2 rfl rfl)⟩
        | 9, _, _ => exact .inl ⟨⟨rfl, .inl (hd 6 rfl)⟩, op_len rfl rfl (hd 8 rfl)⟩
        | 10, _, _ => exact .inl ⟨⟨rfl, .inl (hd 6 rfl)⟩, ⟨_, op_faU0 rfl (hs 1 rfl), rfl⟩⟩
        | 11, _, _ => exact .inl ⟨⟨rfl, .inl (hd 6 rfl)⟩, op_ldI rfl rfl (hd 10 rfl) ((HE.out.to hb).cell 0 0 rfl rfl)⟩
        | 12, _, _ => exact .inl ⟨⟨rfl, .inl (hd 6 rfl)⟩, ⟨_, op_faU1 rfl (hs 1 rfl), rfl⟩⟩
        | 13, _, _ => exact .inl ⟨⟨rfl, .inl (hd 6 rfl)⟩, op_ldI rfl rfl (hd 12 rfl) ((HE.out.to hb).cell 0 1 rfl rfl)⟩
        | 14, _, _ => exact .inl ⟨⟨rfl, .inl (hd 6 rfl)⟩, ⟨_, op_mul (by unfold Fit; omega) rfl (hd 11 rfl) (hd 13 rfl), rfl⟩⟩
        | 15, _, _ => exact .inl ⟨⟨rfl, .inl (hd 6 rfl)⟩, pure_b (bool_eq K2.out) (⟨_, op_neqI rfl (hd 9 rfl) (hd 14 rfl), rfl⟩)⟩
        | 16, _, _ => exact .inl ⟨rfl, ⟨_, op_pickF rfl (hd 6 rfl) (hd 15 rfl), rfl⟩⟩
        | qi + 17, h, _ => omega
      · intro vs X1 hb hv hal hne
        have HL0 := Hd.mk (HE.out.lt)
        have HBW := HB
        replace HB := Hd.mk (bel_then HB.out hb)
        replace HE : Hd (Env X1 [⟨w.heap.size, 24, [.int .i64 Wd, .int .i64 Ht, .slice A xs.length k]⟩]) := ⟨HE.out.to hb⟩
        have HLS := HL0
        have e21 : vs 21 = .bool false := hv 16 (by decide) rfl
        simp only [putAll, List.foldl_cons, List.foldl_nil, Act.put, List.setIfInBounds_toArray, List.set_cons_succ, List.set_cons_zero, List.drop_succ_cons, List.drop_zero, e21]
        generalize vs 5 = s5
        generalize vs 6 = s6
        generalize vs 7 = s7
        generalize vs 8 = s8
        generalize vs 9 = s9
        generalize vs 10 = s10
        generalize vs 11 = s11
        generalize vs 12 = s12
        generalize vs 13 = s13
        generalize vs 14 = s14
        generalize vs 15 = s15
        generalize vs 16 = s16
        generalize vs 17 = s17
        generalize vs 18 = s18
        generalize vs 19 = s19
        generalize vs 20 = s20
        clear hv hal hne hb HL0 HBW HLS e21
        go_upto_region 3 with fail
        refine wp_region_vd 4 [22, 23, 24, 25] [0, 3] [] 84 [.int .i64 0, .int .i64 0] [isV (.pointer (some ⟨w.heap.size, 2, none⟩)), isV (.slice A xs.length k), isV (.int .i64 (((xs.length : Nat) : Int))), isV (.int .i64 0)] (by rfl) alloc_Z ?_ ?_
        · intro qi qh qA aa wx hb hs hd
          match qi, qh, qA with
          | 0, _, _ => exact .inl ⟨rfl, ⟨_, op_faU2 rfl (hs 1 rfl), rfl⟩⟩
          | 1, _, _ => exact .inl ⟨rfl, op_ldS rfl rfl (hd 0 rfl) ((HE.out.to hb).cell 0 2 rfl rfl)⟩
          | 2, _, _ => exact .inl ⟨rfl, op_len rfl rfl (hd 1 rfl)⟩
          | 3, _, _ => exact .inl ⟨rfl, op_mv rfl rfl⟩
          | qi + 4, h, _ => omega
        · intro vs X2 hb hv hal hne
          have HL0 := Hd.mk (HE.out.lt)
          have HBW := HB
          replace HB := Hd.mk (bel_then HB.out hb)
          replace HE : Hd (Env X2 [⟨w.heap.size, 24, [.int .i64 Wd, .int .i64 Ht, .slice A xs.length k]⟩]) := ⟨HE.out.to hb⟩
          have HLS := HL0
          have e23 : vs 23 = .slice A xs.length k := hv 1 (by decide) rfl
          have e24 : vs 24 = .int .i64 (((xs.length : Nat) : Int)) := hv 2 (by decide) rfl
          have e25 : vs 25 = .int .i64 0 := hv 3 (by decide) rfl
          simp only [putAll, List.foldl_cons, List.foldl_nil, Act.put, List.setIfInBounds_toArray, List.set_cons_succ, List.set_cons_zero, List.drop_succ_cons, List.drop_zero, e23, e24, e25]
          generalize vs 22 = s22
          clear hv hal hne hb HL0 HBW HLS e23 e24 e25
          go_wp2_with fail
          go_loopw [4, 25] (fun s4 s25 wr => ∃ q : Nat, q ≤ xs.length ∧ s25 = .int .i64 q ∧ (∀ j : Nat, j < q → badc (xs.getD j 0) = false) ∧ Below w.heap.size w wr) (fun _ s25 _ => xs.length - (intOf s25).toNat)
          case atStart => exact ⟨0, Nat.zero_le _, rfl, (fun j hj => absurd hj (by omega)), HB.out⟩
          case round =>
            obtain ⟨q, hq, rfl, hno, hb⟩ := hrel
            clear HB HE
            have HB := Hd.mk hb
            have HNO := Hd.mk hno
            clear hb hno
            by_cases hlt : q < xs.length
            · obtain ⟨ad, rfl, hcell⟩ := (HRI.out.to HB.out).at_ hlt
              obtain ⟨c, hc⟩ : ∃ c, c = xs.getD q 0 := ⟨_, rfl⟩
              rw [← hc] at hcell
              have HC := Hd.mk hc
              clear hc
              by_cases h1 : c < 0
              · have HV := Hd.mk (valid_no (W := Wd) (H := Ht) (q := q) (by rw [← HC.out]; unfold badc; simp [h1]) hlt)
                go_wp2
                go_ret
                exact ⟨_, rfl, HB.out, by show Value.bool false = _; rw [HV.out]⟩
              · by_cases h2 : 7 < c
                · have HV := Hd.mk (valid_no (W := Wd) (H := Ht) (q := q) (by rw [← HC.out]; unfold badc; simp; omega) hlt)
                  go_wp2
                  go_ret
                  exact ⟨_, rfl, HB.out, by show Value.bool false = _; rw [HV.out]⟩
                · have HG : Hd (badc c = false) := ⟨by unfold badc; simp; omega⟩
                  go_wp2
                  go_roundw
                  case rel => exact ⟨q + 1, by omega, by go_num, no_more HNO.out (by rw [← HC.out]; exact HG.out), HB.out⟩
                  case measure => simp [intOf]; omega
            · have hqe : q = xs.length := by omega
              subst hqe
              have HV := Hd.mk (valid_yes K1.out K4.out HNO.out)
              go_wp2
              go_ret
              exact ⟨_, rfl, HB.out, by show Value.bool true = _; rw [HV.out]⟩
    · have K2 : Hd ((!decide (((xs.length : Nat) : Int) = Wd * Ht)) = true) := ⟨by rw [decide_eq_false h2]; rfl⟩
      rw [show validB Wd Ht xs = false by unfold validB; rw [h1, decide_eq_false h2]; rfl]
      clear h1 h2
      go_enter Try.func17, Try.ntmps17
      go_upto_region 1 with fail
      obtain ⟨W0, hW0⟩ : ∃ W : World, W = w.alloc (.cells #[.int .i64 Wd, .int .i64 Ht, .slice A xs.length k] 24) := ⟨_, rfl⟩
      rw [← hW0]
      obtain ⟨he, hb⟩ := env_one hW0
      have HE := Hd.mk he
      have HB := Hd.mk hb
      clear he hb hW0
      refine wp_region_vd 17 [5, 6, 7, 8, 9, 10, 11, 12, 13, 14, 15, 16, 17, 18, 19, 20, 21] [0, 2, 5, 6, 7, 10, 12, 14, 15, 16] [] 84 [.int .i64 0, .int .i64 0] [isV (.pointer (some ⟨w.heap.size, 0, none⟩)), isV (.int .i64 Wd), isV (.pointer (some ⟨w.heap.size, 1, none⟩)), isV (.int .i64 Ht), isV (.bool true), isV (.bool false), isV (.bool false), isV (.pointer (some ⟨w.heap.size, 2, none⟩)), isV (.slice A xs.length k), isV (.int .i64 (((xs.length : Nat) : Int))), isV (.pointer (some ⟨w.heap.size, 0, none⟩)), isV (.int .i64 Wd), isV (.pointer (some ⟨w.heap.size, 1, none⟩)), isV (.int .i64 Ht), isV (.int .i64 (Wd * Ht)), isV (.bool true), isV (.bool true)] (by rfl) alloc_Z ?_ ?_
      · intro qi qh qA aa wx hb hs hd
        match qi, qh, qA with
        | 0, _, _ => exact .inl ⟨rfl, ⟨_, op_faU0 rfl (hs 1 rfl), rfl⟩⟩
        | 1, _, _ => exact .inl ⟨rfl, op_ldI rfl rfl (hd 0 rfl) ((HE.out.to hb).cell 0 0 rfl rfl)⟩
        | 2, _, _ => exact .inl ⟨rfl, ⟨_, op_faU1 rfl (hs 1 rfl), rfl⟩⟩
        | 3, _, _ => exact .inl ⟨rfl, op_ldI rfl rfl (hd 2 rfl) ((HE.out.to hb).cell 0 1 rfl rfl)⟩
        | 4, _, _ => exact .inl ⟨rfl, wp_b (bool_eq K1.out) (op_call2 rfl rfl Try.call25 (by rw [(show aa.eval (.tmp 6) = .int .i64 Wd from (hd 1 rfl)), (show aa.eval (.tmp 8) = .int .i64 Ht from (hd 3 rfl))]; exact rSize_got Wd Ht _))⟩
        | 5, _, _ => exact .inl ⟨rfl, ⟨_, op_not rfl (hd 4 rfl), rfl⟩⟩
        | 6, _, _ => exact .inl ⟨rfl, op_mv rfl (hd 5 rfl)⟩
        | 7, _, _ => exact .inl ⟨⟨rfl, .inl (hd 6 rfl)⟩, ⟨_, op_faU2 rfl (hs 1 rfl), rfl⟩⟩
        | 8, _, _ => exact .inl ⟨⟨rfl, .inl (hd 6 rfl)⟩, op_ldS rfl rfl (hd 7 rfl) ((HE.out.to hb).cell 0 2 rfl rfl)⟩
        | 9, _, _ => exact .inl ⟨⟨rfl, .inl (hd 6 rfl)⟩, op_len rfl rfl (hd 8 rfl)⟩
        | 10, _, _ => exact .inl ⟨⟨rfl, .inl (hd 6 rfl)⟩, ⟨_, op_faU0 rfl (hs 1 rfl), rfl⟩⟩
        | 11, _, _ => exact .inl ⟨⟨rfl, .inl (hd 6 rfl)⟩, op_ldI rfl rfl (hd 10 rfl) ((HE.out.to hb).cell 0 0 rfl rfl)⟩
        | 12, _, _ => exact .inl ⟨⟨rfl, .inl (hd 6 rfl)⟩, ⟨_, op_faU1 rfl (hs 1 rfl), rfl⟩⟩
        | 13, _, _ => exact .inl ⟨⟨rfl, .inl (hd 6 rfl)⟩, op_ldI rfl rfl (hd 12 rfl) ((HE.out.to hb).cell 0 1 rfl rfl)⟩
        | 14, _, _ => exact .inl ⟨⟨rfl, .inl (hd 6 rfl)⟩, ⟨_, op_mul (by unfold Fit; omega) rfl (hd 11 rfl) (hd 13 rfl), rfl⟩⟩
        | 15, _, _ => exact .inl ⟨⟨rfl, .inl (hd 6 rfl)⟩, pure_b (bool_eq K2.out) (⟨_, op_neqI rfl (hd 9 rfl) (hd 14 rfl), rfl⟩)⟩
        | 16, _, _ => exact .inl ⟨rfl, ⟨_, op_pickF rfl (hd 6 rfl) (hd 15 rfl), rfl⟩⟩
        | qi + 17, h, _ => omega
      · intro vs X1 hb hv hal hne
        have HL0 := Hd.mk (HE.out.lt)
        have HBW := HB
        replace HB := Hd.mk (bel_then HB.out hb)
        replace HE : Hd (Env X1 [⟨w.heap.size, 24, [.int .i64 Wd, .int .i64 Ht, .slice A xs.length k]⟩]) := ⟨HE.out.to hb⟩
        have HLS := HL0
        have e21 : vs 21 = .bool true := hv 16 (by decide) rfl
        simp only [putAll, List.foldl_cons, List.foldl_nil, Act.put, List.setIfInBounds_toArray, List.set_cons_succ, List.set_cons_zero, List.drop_succ_cons, List.drop_zero, e21]
        generalize vs 5 = s5
        generalize vs 6 = s6
        generalize vs 7 = s7
        generalize vs 8 = s8
        generalize vs 9 = s9
        generalize vs 10 = s10
        generalize vs 11 = s11
        generalize vs 12 = s12
        generalize vs 13 = s13
        generalize vs 14 = s14
        generalize vs 15 = s15
        generalize vs 16 = s16
        generalize vs 17 = s17
        generalize vs 18 = s18
        generalize vs 19 = s19
        generalize vs 20 = s20
        clear hv hal hne hb HL0 HBW HLS e21
        go_wp2_with fail
        go_ret
        exact ⟨_, rfl, HB.out, rfl⟩
  · have h1' : sizeB Wd Ht = false := by simpa using h1
    have K1 := Hd.mk h1'
    rw [show validB Wd Ht xs = false by unfold validB; rw [h1']; rfl]
    clear h1 h1'
    go_enter Try.func17, Try.ntmps17
    go_upto_region 1 with fail
    obtain ⟨W0, hW0⟩ : ∃ W : World, W = w.alloc (.cells #[.int .i64 Wd, .int .i64 Ht, .slice A xs.length k] 24) := ⟨_, rfl⟩
    rw [← hW0]
    obtain ⟨he, hb⟩ := env_one hW0
    have HE := Hd.mk he
    have HB := Hd.mk hb
    clear he hb hW0
    refine wp_region_vd 17 [5, 6, 7, 8, 9, 10, 11, 12, 13, 14, 15, 16, 17, 18, 19, 20, 21] [0, 2, 5, 6, 16] [] 84 [.int .i64 0, .int .i64 0] [isV (.pointer (some ⟨w.heap.size, 0, none⟩)), isV (.int .i64 Wd), isV (.pointer (some ⟨w.heap.size, 1, none⟩)), isV (.int .i64 Ht), isV (.bool false), isV (.bool true), isV (.bool true), isV undef, isV undef, isV undef, isV undef, isV undef, isV undef, isV undef, isV undef, isV undef, isV (.bool true)] (by rfl) alloc_Z ?_ ?_
    · intro qi qh qA aa wx hb hs hd
      match qi, qh, qA with
      | 0, _, _ => exact .inl ⟨rfl, ⟨_, op_faU0 rfl (hs 1 rfl), rfl⟩⟩
      | 1, _, _ => exact .inl ⟨rfl, op_ldI rfl rfl (hd 0 rfl) ((HE.out.to hb).cell 0 0 rfl rfl)⟩
      | 2, _, _ => exact .inl ⟨rfl, ⟨_, op_faU1 rfl (hs 1 rfl), rfl⟩⟩
      | 3, _, _ => exact .inl ⟨rfl, op_ldI rfl rfl (hd 2 rfl) ((HE.out.to hb).cell 0 1 rfl rfl)⟩
      | 4, _, _ => exact .inl ⟨rfl, wp_b (bool_eq K1.out) (op_call2 rfl rfl Try.call25 (by rw [(show aa.eval (.tmp 6) = .int .i64 Wd from (hd 1 rfl)), (show aa.eval (.tmp 8) = .int .i64 Ht from (hd 3 rfl))]; exact rSize_got Wd Ht _))⟩
      | 5, _, _ => exact .inl ⟨rfl, ⟨_, op_not rfl (hd 4 rfl), rfl⟩⟩
      | 6, _, _ => exact .inl ⟨rfl, op_mv rfl (hd 5 rfl)⟩
      | 7, _, _ => exact .inr ⟨⟨rfl, .inl (hd 6 rfl)⟩, rfl⟩
      | 8, _, _ => exact .inr ⟨⟨rfl, .inl (hd 6 rfl)⟩, rfl⟩
      | 9, _, _ => exact .inr ⟨⟨rfl, .inl (hd 6 rfl)⟩, rfl⟩
      | 10, _, _ => exact .inr ⟨⟨rfl, .inl (hd 6 rfl)⟩, rfl⟩
      | 11, _, _ => exact .inr ⟨⟨rfl, .inl (hd 6 rfl)⟩, rfl⟩
      | 12, _, _ => exact .inr ⟨⟨rfl, .inl (hd 6 rfl)⟩, rfl⟩
      | 13, _, _ => exact .inr ⟨⟨rfl, .inl (hd 6 rfl)⟩, rfl⟩
      | 14, _, _ => exact .inr ⟨⟨rfl, .inl (hd 6 rfl)⟩, rfl⟩
      | 15, _, _ => exact .inr ⟨⟨rfl, .inl (hd 6 rfl)⟩, rfl⟩
      | 16, _, _ => exact .inl ⟨rfl, ⟨_, op_pickT rfl (hd 6 rfl) rfl, rfl⟩⟩
      | qi + 17, h, _ => omega
    · intro vs X1 hb hv hal hne
      have HL0 := Hd.mk (HE.out.lt)
      have HBW := HB
      replace HB := Hd.mk (bel_then HB.out hb)
      replace HE : Hd (Env X1 [⟨w.heap.size, 24, [.int .i64 Wd, .int .i64 Ht, .slice A xs.length k]⟩]) := ⟨HE.out.to hb⟩
      have HLS := HL0
      have e21 : vs 21 = .bool true := hv 16 (by decide) rfl
      simp only [putAll, List.foldl_cons, List.foldl_nil, Act.put, List.setIfInBounds_toArray, List.set_cons_succ, List.set_cons_zero, List.drop_succ_cons, List.drop_zero, e21]
      generalize vs 5 = s5
      generalize vs 6 = s6
      generalize vs 7 = s7
      generalize vs 8 = s8
      generalize vs 9 = s9
      generalize vs 10 = s10
      generalize vs 11 = s11
      generalize vs 12 = s12
      generalize vs 13 = s13
      generalize vs 14 = s14
      generalize vs 15 = s15
      generalize vs 16 = s16
      generalize vs 17 = s17
      generalize vs 18 = s18
      generalize vs 19 = s19
      generalize vs 20 = s20
      clear hv hal hne hb HL0 HBW HLS e21
      go_wp2_with fail
      go_ret
      exact ⟨_, rfl, HB.out, rfl⟩
set_option maxRecDepth 100000 in
set_option maxHeartbeats 1000000 in
theorem Apply_ad (Wd Ht x y t : Int) (f : Bool) (ad : Addr) (k : Nat) (xs : List Int) (w : World) (hri : RI w (some ad) xs) (hv : validB Wd Ht xs = true) (hm : alB Wd Ht x y t = true) :
    Calls Try.prog 13 #[.agg #[.int .i64 x, .int .i64 y, .int .i64 t, .bool f], .agg #[.int .i64 Wd, .int .i64 Ht, .slice (some ad) xs.length k]] w (Got w (isP (isFS w.heap.size Wd Ht (apL Wd Ht x y t f xs)) (isV (.int .i64 0))).p) := by
  have HRI := Hd.mk hri
  have HV := Hd.mk hv
  have HM := Hd.mk hm
  have HK := Hd.mk (okm (valid_size hv) hm)
  have HLN := Hd.mk (valid_len hv)
  clear hri hv hm
  go_enter Try.func13, Try.ntmps13
  go_upto_region 1 with fail
  obtain ⟨W0, hW0⟩ : ∃ W : World, W = ((w.alloc (.cells #[.int .i64 x, .int .i64 y, .int .i64 t, .bool f] 31)).alloc (.cells #[.int .i64 Wd, .int .i64 Ht, .slice (some ad) xs.length k] 27)).alloc (.cells #[.int .i64 0, .int .i64 0, .slice none 0 0] 27) := ⟨_, rfl⟩
  rw [← hW0]
  obtain ⟨he, hb⟩ := env_three hW0
  have HE := Hd.mk he
  have HB := Hd.mk hb
  clear he hb hW0
  refine wp_region_vg 10 [6, 7, 8, 9, 10, 11, 12, 13, 14, 15] [2, 3, 8, 9] [] 84 [.int .i64 0, .int .i64 0] [isV (.agg #[.int .i64 Wd, .int .i64 Ht, .slice (some ad) xs.length k]), isV (.bool true), isV (.bool false), isV (.bool false), isV (.agg #[.int .i64 Wd, .int .i64 Ht, .slice (some ad) xs.length k]), isV (.agg #[.int .i64 Wd, .int .i64 Ht]), isV (.agg #[.int .i64 x, .int .i64 y, .int .i64 t, .bool f]), isV (.bool true), isV (.bool false), isV (.bool false)] (by kernel_rfl) (by kernel_rfl) (by kernel_rfl) (by rfl) alloc_Z (fun d v c a w h => by cases d <;> exact h) ?_ ?_
  · intro qi qh qA aa wx hb hs hd
    match qi, qh, qA with
    | 0, _, _ => exact .inl ⟨rfl, op_ldT rfl rfl (hs 3 rfl) ((HE.out.to hb).get 1 rfl)⟩
    | 1, _, _ => exact .inl ⟨rfl, wp_b (bool_eq HV.out) (op_call1 rfl rfl Try.call16 (by rw [(show aa.eval (.tmp 6) = .agg #[.int .i64 Wd, .int .i64 Ht, .slice (some ad) xs.length k] from (hd 0 rfl))]; exact Valid_got Wd Ht (some ad) k xs _ (HRI.out.to (bel_then HB.out hb))))⟩
    | 2, _, _ => exact .inl ⟨rfl, ⟨_, op_not rfl (hd 1 rfl), rfl⟩⟩
    | 3, _, _ => exact .inl ⟨rfl, op_mv rfl (hd 2 rfl)⟩
    | 4, _, _ => exact .inl ⟨⟨rfl, .inl (hd 3 rfl)⟩, op_ldT rfl rfl (hs 3 rfl) ((HE.out.to hb).get 1 rfl)⟩
    | 5, _, _ => exact .inl ⟨⟨rfl, .inl (hd 3 rfl)⟩, op_call1 rfl rfl Try.call50 (by rw [(show aa.eval (.tmp 10) = .agg #[.int .i64 Wd, .int .i64 Ht, .slice (some ad) xs.length k] from (hd 4 rfl))]; exact size_got Wd Ht (some ad) xs.length k _)⟩
    | 6, _, _ => exact .inl ⟨⟨rfl, .inl (hd 3 rfl)⟩, op_ldM rfl rfl (hs 2 rfl) ((HE.out.to hb).get 0 rfl)⟩
    | 7, _, _ => exact .inl ⟨⟨rfl, .inl (hd 3 rfl)⟩, wp_b (bool_eq HM.out) (op_call2 rfl rfl Try.call51 (by rw [(show aa.eval (.tmp 11) = .agg #[.int .i64 Wd, .int .i64 Ht] from (hd 5 rfl)), (show aa.eval (.tmp 12) = .agg #[.int .i64 x, .int .i64 y, .int .i64 t, .bool f] from (hd 6 rfl))]; exact allows_got Wd Ht x y t f _))⟩
    | 8, _, _ => exact .inl ⟨⟨rfl, .inl (hd 3 rfl)⟩, ⟨_, op_not rfl (hd 7 rfl), rfl⟩⟩
    | 9, _, _ => exact .inl ⟨rfl, ⟨_, op_pickF rfl (hd 3 rfl) (hd 8 rfl), rfl⟩⟩
    | qi + 10, h, _ => omega
  · intro vs X1 hb hv hal hne
    have HL0 := Hd.mk (HE.out.lt)
    have HBW := HB
    replace HB := Hd.mk (bel_then HB.out hb)
    replace HE : Hd (Env X1 [⟨w.heap.size, 31, [.int .i64 x, .int .i64 y, .int .i64 t, .bool f]⟩, ⟨w.heap.size + 1, 27, [.int .i64 Wd, .int .i64 Ht, .slice (some ad) xs.length k]⟩, ⟨w.heap.size + 1 + 1, 27, [.int .i64 0, .int .i64 0, .slice none 0 0]⟩]) := ⟨HE.out.to hb⟩
    have HLS := HL0
    have e15 : vs 15 = .bool false := hv 9 (by decide) rfl
    simp only [putAll, List.foldl_cons, List.foldl_nil, Act.put, List.setIfInBounds_toArray, List.set_cons_succ, List.set_cons_zero, List.drop_succ_cons, List.drop_zero, e15]
    generalize vs 6 = s6
    generalize vs 7 = s7
    generalize vs 8 = s8
    generalize vs 9 = s9
    generalize vs 10 = s10
    generalize vs 11 = s11
    generalize vs 12 = s12
    generalize vs 13 = s13
    generalize vs 14 = s14
    clear hv hal hne hb HL0 HBW HLS e15
    go_upto_region 3 with fail
    have HWS := Hd.mk HB.out.size
    refine wp_region_vs 5 [17, 18, 19, 20, 21] [] [] 84 [.int .i64 0, .int .i64 0] [isV (.agg #[.int .i64 Wd, .int .i64 Ht, .slice (some ad) xs.length k]), isV (.agg #[.int .i64 Wd, .int .i64 Ht]), isV (.agg #[.int .i64 x, .int .i64 y, .int .i64 t, .bool f]), isV (.agg #[.int .i64 Wd, .int .i64 Ht, .slice (some ad) xs.length k]), isFS X1.heap.size Wd Ht (apL Wd Ht x y t f xs)] (by kernel_rfl) (by kernel_rfl) (by kernel_rfl) (by rfl) alloc_Z (fun d v c a w h => by cases d <;> exact h) ?_ ?_
    · intro qi qh qA aa wx hb hs hd
      match qi, qh, qA with
      | 0, _, _ => exact op_ldT rfl rfl (hs 3 rfl) ((HE.out.to hb).get 1 rfl)
      | 1, _, _ => exact op_call1 rfl rfl Try.call50 (by rw [(show aa.eval (.tmp 17) = .agg #[.int .i64 Wd, .int .i64 Ht, .slice (some ad) xs.length k] from (hd 0 rfl))]; exact size_got Wd Ht (some ad) xs.length k _)
      | 2, _, _ => exact op_ldM rfl rfl (hs 2 rfl) ((HE.out.to hb).get 0 rfl)
      | 3, _, _ => exact op_ldT rfl rfl (hs 3 rfl) ((HE.out.to hb).get 1 rfl)
      | 4, _, _ => exact op_call3 rfl rfl Try.call52 (by rw [(show aa.eval (.tmp 18) = .agg #[.int .i64 Wd, .int .i64 Ht] from (hd 1 rfl)), (show aa.eval (.tmp 19) = .agg #[.int .i64 x, .int .i64 y, .int .i64 t, .bool f] from (hd 2 rfl)), (show aa.eval (.tmp 20) = .agg #[.int .i64 Wd, .int .i64 Ht, .slice (some ad) xs.length k] from (hd 3 rfl))]; exact got_fs hb.size (apply_got Wd Ht x y t f ad k xs _ (HRI.out.to (bel_then HB.out hb)) HK.out HLN.out))
      | qi + 5, h, _ => omega
    · intro vs X2 hb hv hal hne
      have HL0 := Hd.mk (HE.out.lt)
      have HBW := HB
      replace HB := Hd.mk (bel_then HB.out hb)
      replace HE : Hd (Env X2 [⟨w.heap.size, 31, [.int .i64 x, .int .i64 y, .int .i64 t, .bool f]⟩, ⟨w.heap.size + 1, 27, [.int .i64 Wd, .int .i64 Ht, .slice (some ad) xs.length k]⟩, ⟨w.heap.size + 1 + 1, 27, [.int .i64 0, .int .i64 0, .slice none 0 0]⟩]) := ⟨HE.out.to hb⟩
      have HLS := HL0
      have t21 : (isFS X1.heap.size Wd Ht (apL Wd Ht x y t f xs)).p (vs 21) X2 := hv 4 (by decide) rfl
      obtain ⟨g21, k21, rest21, e21, l21, m21, n21, b21⟩ := t21
      replace HE : Hd (Env X2 [⟨w.heap.size, 31, [.int .i64 x, .int .i64 y, .int .i64 t, .bool f]⟩, ⟨w.heap.size + 1, 27, [.int .i64 Wd, .int .i64 Ht, .slice (some ad) xs.length k]⟩, ⟨w.heap.size + 1 + 1, 27, [.int .i64 0, .int .i64 0, .slice none 0 0]⟩, ⟨g21, 3, ints (apL Wd Ht x y t f xs) ++ rest21⟩]) := ⟨Env.addne (e := ⟨g21, 3, ints (apL Wd Ht x y t f xs) ++ rest21⟩) HE.out b21 (fun e' he => Nat.ne_of_lt (Nat.lt_of_lt_of_le (HL0.out e' he) l21))⟩
      have G21 : Hd (w.heap.size ≤ g21) := ⟨Nat.le_trans HBW.out.size l21⟩
      simp only [putAll, List.foldl_cons, List.foldl_nil, Act.put, List.setIfInBounds_toArray, List.set_cons_succ, List.set_cons_zero, List.drop_succ_cons, List.drop_zero, e21]
      generalize vs 17 = s17
      generalize vs 18 = s18
      generalize vs 19 = s19
      generalize vs 20 = s20
      clear hv hal hne hb HL0 HBW HLS e21 l21 b21
      refine wpList_st rfl rfl rfl rfl rfl (sto_T (HE.out.get 2 rfl)) ?_
      have HE' : Env (putL X2 (w.heap.size + 1 + 1) 0 [.int .i64 Wd, .int .i64 Ht, .slice (some ⟨g21, 0, none⟩) ((apL Wd Ht x y t f xs).length) k21]) [⟨w.heap.size, 31, [.int .i64 x, .int .i64 y, .int .i64 t, .bool f]⟩, ⟨w.heap.size + 1, 27, [.int .i64 Wd, .int .i64 Ht, .slice (some ad) xs.length k]⟩, ⟨w.heap.size + 1 + 1, 27, [.int .i64 Wd, .int .i64 Ht, .slice (some ⟨g21, 0, none⟩) ((apL Wd Ht x y t f xs).length) k21]⟩, ⟨g21, 3, ints (apL Wd Ht x y t f xs) ++ rest21⟩] := HE.out.putF 2 rfl rfl
      have HB' := putL_below (show w.heap.size ≤ w.heap.size + 1 + 1 from by omega) [.int .i64 Wd, .int .i64 Ht, .slice (some ⟨g21, 0, none⟩) ((apL Wd Ht x y t f xs).length) k21] _ 0 HB.out
      generalize putL X2 (w.heap.size + 1 + 1) 0 [.int .i64 Wd, .int .i64 Ht, .slice (some ⟨g21, 0, none⟩) ((apL Wd Ht x y t f xs).length) k21] = X3 at *
      replace HE := Hd.mk HE'
      replace HB := Hd.mk HB'
      clear HE' HB'
      go_wp2_with fail
      have k0a := HE.out.cell 2 0 rfl rfl
      have k0b := HE.out.cell 2 1 rfl rfl
      have k0c := HE.out.cell 2 2 rfl rfl
      refine bodyPost_ret (v := .tuple #[.agg #[.int .i64 Wd, .int .i64 Ht, .slice (some ⟨g21, 0, none⟩) ((apL Wd Ht x y t f xs).length) k21], .int .i64 0]) (by simp [results, Try.results13, go_sem, k0a, k0b, k0c]) rfl ?_
      exact ⟨_, rfl, HB.out, _, _, rfl, ⟨g21, k21, rest21, rfl, G21.out, m21, n21, HE.out.get 3 rfl⟩, rfl⟩
set_option maxRecDepth 100000 in
set_option maxHeartbeats 1000000 in
theorem Apply_no (Wd Ht x y t : Int) (f : Bool) (A : Option Addr) (k : Nat) (xs : List Int) (w : World) (hri : RI w A xs) (hm : (validB Wd Ht xs && alB Wd Ht x y t) = false) :
    Calls Try.prog 13 #[.agg #[.int .i64 x, .int .i64 y, .int .i64 t, .bool f], .agg #[.int .i64 Wd, .int .i64 Ht, .slice A xs.length k]] w (Got w (isP (isV (.agg #[.int .i64 0, .int .i64 0, .slice none 0 0])) (isV (.int .i64 2))).p) := by
  have HRI := Hd.mk hri
  clear hri
  by_cases hv : validB Wd Ht xs = true
  · have hm' : alB Wd Ht x y t = false := by rw [hv] at hm; simpa using hm
    have HV := Hd.mk hv
    have HM := Hd.mk hm'
    clear hv hm hm'
    go_enter Try.func13, Try.ntmps13
    go_upto_region 1 with fail
    obtain ⟨W0, hW0⟩ : ∃ W : World, W = ((w.alloc (.cells #[.int .i64 x, .int .i64 y, .int .i64 t, .bool f] 31)).alloc (.cells #[.int .i64 Wd, .int .i64 Ht, .slice A xs.length k] 27)).alloc (.cells #[.int .i64 0, .int .i64 0, .slice none 0 0] 27) := ⟨_, rfl⟩
    rw [← hW0]
    obtain ⟨he, hb⟩ := env_three hW0
    have HE := Hd.mk he
    have HB := Hd.mk hb
    clear he hb hW0
    refine wp_region_vg 10 [6, 7, 8, 9, 10, 11, 12, 13, 14, 15] [2, 3, 8, 9] [] 84 [.int .i64 0, .int .i64 0] [isV (.agg #[.int .i64 Wd, .int .i64 Ht, .slice A xs.length k]), isV (.bool true), isV (.bool false), isV (.bool false), isV (.agg #[.int .i64 Wd, .int .i64 Ht, .slice A xs.length k]), isV (.agg #[.int .i64 Wd, .int .i64 Ht]), isV (.agg #[.int .i64 x, .int .i64 y, .int .i64 t, .bool f]), isV (.bool false), isV (.bool true), isV (.bool true)] (by kernel_rfl) (by kernel_rfl) (by kernel_rfl) (by rfl) alloc_Z (fun d v c a w h => by cases d <;> exact h) ?_ ?_
    · intro qi qh qA aa wx hb hs hd
      match qi, qh, qA with
      | 0, _, _ => exact .inl ⟨rfl, op_ldT rfl rfl (hs 3 rfl) ((HE.out.to hb).get 1 rfl)⟩
      | 1, _, _ => exact .inl ⟨rfl, wp_b (bool_eq HV.out) (op_call1 rfl rfl Try.call16 (by rw [(show aa.eval (.tmp 6) = .agg #[.int .i64 Wd, .int .i64 Ht, .slice A xs.length k] from (hd 0 rfl))]; exact Valid_got Wd Ht A k xs _ (HRI.out.to (bel_then HB.out hb))))⟩
      | 2, _, _ => exact .inl ⟨rfl, ⟨_, op_not rfl (hd 1 rfl), rfl⟩⟩
      | 3, _, _ => exact .inl ⟨rfl, op_mv rfl (hd 2 rfl)⟩
      | 4, _, _ => exact .inl ⟨⟨rfl, .inl (hd 3 rfl)⟩, op_ldT rfl rfl (hs 3 rfl) ((HE.out.to hb).get 1 rfl)⟩
      | 5, _, _ => exact .inl ⟨⟨rfl, .inl (hd 3 rfl)⟩, op_call1 rfl rfl Try.call50 (by rw [(show aa.eval (.tmp 10) = .agg #[.int .i64 Wd, .int .i64 Ht, .slice A xs.length k] from (hd 4 rfl))]; exact size_got Wd Ht A xs.length k _)⟩
      | 6, _, _ => exact .inl ⟨⟨rfl, .inl (hd 3 rfl)⟩, op_ldM rfl rfl (hs 2 rfl) ((HE.out.to hb).get 0 rfl)⟩
      | 7, _, _ => exact .inl ⟨⟨rfl, .inl (hd 3 rfl)⟩, wp_b (bool_eq HM.out) (op_call2 rfl rfl Try.call51 (by rw [(show aa.eval (.tmp 11) = .agg #[.int .i64 Wd, .int .i64 Ht] from (hd 5 rfl)), (show aa.eval (.tmp 12) = .agg #[.int .i64 x, .int .i64 y, .int .i64 t, .bool f] from (hd 6 rfl))]; exact allows_got Wd Ht x y t f _))⟩
      | 8, _, _ => exact .inl ⟨⟨rfl, .inl (hd 3 rfl)⟩, ⟨_, op_not rfl (hd 7 rfl), rfl⟩⟩
      | 9, _, _ => exact .inl ⟨rfl, ⟨_, op_pickF rfl (hd 3 rfl) (hd 8 rfl), rfl⟩⟩
      | qi + 10, h, _ => omega
    · intro vs X1 hb hv hal hne
      have HL0 := Hd.mk (HE.out.lt)
      have HBW := HB
      replace HB := Hd.mk (bel_then HB.out hb)
      replace HE : Hd (Env X1 [⟨w.heap.size, 31, [.int .i64 x, .int .i64 y, .int .i64 t, .bool f]⟩, ⟨w.heap.size + 1, 27, [.int .i64 Wd, .int .i64 Ht, .slice A xs.length k]⟩, ⟨w.heap.size + 1 + 1, 27, [.int .i64 0, .int .i64 0, .slice none 0 0]⟩]) := ⟨HE.out.to hb⟩
      have HLS := HL0
      have e15 : vs 15 = .bool true := hv 9 (by decide) rfl
      simp only [putAll, List.foldl_cons, List.foldl_nil, Act.put, List.setIfInBounds_toArray, List.set_cons_succ, List.set_cons_zero, List.drop_succ_cons, List.drop_zero, e15]
      generalize vs 6 = s6
      generalize vs 7 = s7
      generalize vs 8 = s8
      generalize vs 9 = s9
      generalize vs 10 = s10
      generalize vs 11 = s11
      generalize vs 12 = s12
      generalize vs 13 = s13
      generalize vs 14 = s14
      clear hv hal hne hb HL0 HBW HLS e15
      go_upto_region 2 with fail
      refine wp_region_vd 1 [16] [0] [] 84 [.int .i64 0, .int .i64 0] [isV (.agg #[.int .i64 0, .int .i64 0, .slice none 0 0])] (by rfl) alloc_Z ?_ ?_
      · intro qi qh qA aa wx hb hs hd
        match qi, qh, qA with
        | 0, _, _ => exact .inl ⟨rfl, ⟨_, op_b0T rfl, rfl⟩⟩
        | qi + 1, h, _ => omega
      · intro vs X2 hb hv hal hne
        have HL0 := Hd.mk (HE.out.lt)
        have HBW := HB
        replace HB := Hd.mk (bel_then HB.out hb)
        replace HE : Hd (Env X2 [⟨w.heap.size, 31, [.int .i64 x, .int .i64 y, .int .i64 t, .bool f]⟩, ⟨w.heap.size + 1, 27, [.int .i64 Wd, .int .i64 Ht, .slice A xs.length k]⟩, ⟨w.heap.size + 1 + 1, 27, [.int .i64 0, .int .i64 0, .slice none 0 0]⟩]) := ⟨HE.out.to hb⟩
        have HLS := HL0
        have e16 : vs 16 = .agg #[.int .i64 0, .int .i64 0, .slice none 0 0] := hv 0 (by decide) rfl
        simp only [putAll, List.foldl_cons, List.foldl_nil, Act.put, List.setIfInBounds_toArray, List.set_cons_succ, List.set_cons_zero, List.drop_succ_cons, List.drop_zero, e16]
        clear hv hal hne hb HL0 HBW HLS e16
        refine wpList_st rfl rfl rfl rfl rfl (sto_T (HE.out.get 2 rfl)) ?_
        have HE' : Env (putL X2 (w.heap.size + 1 + 1) 0 [.int .i64 0, .int .i64 0, .slice none 0 0]) [⟨w.heap.size, 31, [.int .i64 x, .int .i64 y, .int .i64 t, .bool f]⟩, ⟨w.heap.size + 1, 27, [.int .i64 Wd, .int .i64 Ht, .slice A xs.length k]⟩, ⟨w.heap.size + 1 + 1, 27, [.int .i64 0, .int .i64 0, .slice none 0 0]⟩] := HE.out.putF 2 rfl rfl
        have HB' := putL_below (show w.heap.size ≤ w.heap.size + 1 + 1 from by omega) [.int .i64 0, .int .i64 0, .slice none 0 0] _ 0 HB.out
        generalize putL X2 (w.heap.size + 1 + 1) 0 [.int .i64 0, .int .i64 0, .slice none 0 0] = X3 at *
        replace HE := Hd.mk HE'
        replace HB := Hd.mk HB'
        clear HE' HB'
        go_wp2_with fail
        have k0a := HE.out.cell 2 0 rfl rfl
        have k0b := HE.out.cell 2 1 rfl rfl
        have k0c := HE.out.cell 2 2 rfl rfl
        refine bodyPost_ret (v := .tuple #[.agg #[.int .i64 0, .int .i64 0, .slice none 0 0], .int .i64 2]) (by simp [results, Try.results13, go_sem, k0a, k0b, k0c]) rfl ?_
        exact ⟨_, rfl, HB.out, _, _, rfl, rfl, rfl⟩
  · have hv' : validB Wd Ht xs = false := by simpa using hv
    have HV := Hd.mk hv'
    clear hv hv' hm
    go_enter Try.func13, Try.ntmps13
    go_upto_region 1 with fail
    obtain ⟨W0, hW0⟩ : ∃ W : World, W = ((w.alloc (.cells #[.int .i64 x, .int .i64 y, .int .i64 t, .bool f] 31)).alloc (.cells #[.int .i64 Wd, .int .i64 Ht, .slice A xs.length k] 27)).alloc (.cells #[.int .i64 0, .int .i64 0, .slice none 0 0] 27) := ⟨_, rfl⟩
    rw [← hW0]
    obtain ⟨he, hb⟩ := env_three hW0
    have HE := Hd.mk he
    have HB := Hd.mk hb
    clear he hb hW0
    refine wp_region_vg 10 [6, 7, 8, 9, 10, 11, 12, 13, 14, 15] [2, 3, 9] [] 84 [.int .i64 0, .int .i64 0] [isV (.agg #[.int .i64 Wd, .int .i64 Ht, .slice A xs.length k]), isV (.bool false), isV (.bool true), isV (.bool true), isV undef, isV undef, isV undef, isV undef, isV undef, isV (.bool true)] (by kernel_rfl) (by kernel_rfl) (by kernel_rfl) (by rfl) alloc_Z (fun d v c a w h => by cases d <;> exact h) ?_ ?_
    · intro qi qh qA aa wx hb hs hd
      match qi, qh, qA with
      | 0, _, _ => exact .inl ⟨rfl, op_ldT rfl rfl (hs 3 rfl) ((HE.out.to hb).get 1 rfl)⟩
      | 1, _, _ => exact .inl ⟨rfl, wp_b (bool_eq HV.out) (op_call1 rfl rfl Try.call16 (by rw [(show aa.eval (.tmp 6) = .agg #[.int .i64 Wd, .int .i64 Ht, .slice A xs.length k] from (hd 0 rfl))]; exact Valid_got Wd Ht A k xs _ (HRI.out.to (bel_then HB.out hb))))⟩
      | 2, _, _ => exact .inl ⟨rfl, ⟨_, op_not rfl (hd 1 rfl), rfl⟩⟩
      | 3, _, _ => exact .inl ⟨rfl, op_mv rfl (hd 2 rfl)⟩
      | 4, _, _ => exact .inr ⟨⟨rfl, .inl (hd 3 rfl)⟩, rfl⟩
      | 5, _, _ => exact .inr ⟨⟨rfl, .inl (hd 3 rfl)⟩, rfl⟩
      | 6, _, _ => exact .inr ⟨⟨rfl, .inl (hd 3 rfl)⟩, rfl⟩
      | 7, _, _ => exact .inr ⟨⟨rfl, .inl (hd 3 rfl)⟩, rfl⟩
      | 8, _, _ => exact .inr ⟨⟨rfl, .inl (hd 3 rfl)⟩, rfl⟩
      | 9, _, _ => exact .inl ⟨rfl, ⟨_, op_pickT rfl (hd 3 rfl) rfl, rfl⟩⟩
      | qi + 10, h, _ => omega
    · intro vs X1 hb hv hal hne
      have HL0 := Hd.mk (HE.out.lt)
      have HBW := HB
      replace HB := Hd.mk (bel_then HB.out hb)
      replace HE : Hd (Env X1 [⟨w.heap.size, 31, [.int .i64 x, .int .i64 y, .int .i64 t, .bool f]⟩, ⟨w.heap.size + 1, 27, [.int .i64 Wd, .int .i64 Ht, .slice A xs.length k]⟩, ⟨w.heap.size + 1 + 1, 27, [.int .i64 0, .int .i64 0, .slice none 0 0]⟩]) := ⟨HE.out.to hb⟩
      have HLS := HL0
      have e15 : vs 15 = .bool true := hv 9 (by decide) rfl
      simp only [putAll, List.foldl_cons, List.foldl_nil, Act.put, List.setIfInBounds_toArray, List.set_cons_succ, List.set_cons_zero, List.drop_succ_cons, List.drop_zero, e15]
      generalize vs 6 = s6
      generalize vs 7 = s7
      generalize vs 8 = s8
      generalize vs 9 = s9
      generalize vs 10 = s10
      generalize vs 11 = s11
      generalize vs 12 = s12
      generalize vs 13 = s13
      generalize vs 14 = s14
      clear hv hal hne hb HL0 HBW HLS e15
      go_upto_region 2 with fail
      refine wp_region_vd 1 [16] [0] [] 84 [.int .i64 0, .int .i64 0] [isV (.agg #[.int .i64 0, .int .i64 0, .slice none 0 0])] (by rfl) alloc_Z ?_ ?_
      · intro qi qh qA aa wx hb hs hd
        match qi, qh, qA with
        | 0, _, _ => exact .inl ⟨rfl, ⟨_, op_b0T rfl, rfl⟩⟩
        | qi + 1, h, _ => omega
      · intro vs X2 hb hv hal hne
        have HL0 := Hd.mk (HE.out.lt)
        have HBW := HB
        replace HB := Hd.mk (bel_then HB.out hb)
        replace HE : Hd (Env X2 [⟨w.heap.size, 31, [.int .i64 x, .int .i64 y, .int .i64 t, .bool f]⟩, ⟨w.heap.size + 1, 27, [.int .i64 Wd, .int .i64 Ht, .slice A xs.length k]⟩, ⟨w.heap.size + 1 + 1, 27, [.int .i64 0, .int .i64 0, .slice none 0 0]⟩]) := ⟨HE.out.to hb⟩
        have HLS := HL0
        have e16 : vs 16 = .agg #[.int .i64 0, .int .i64 0, .slice none 0 0] := hv 0 (by decide) rfl
        simp only [putAll, List.foldl_cons, List.foldl_nil, Act.put, List.setIfInBounds_toArray, List.set_cons_succ, List.set_cons_zero, List.drop_succ_cons, List.drop_zero, e16]
        clear hv hal hne hb HL0 HBW HLS e16
        refine wpList_st rfl rfl rfl rfl rfl (sto_T (HE.out.get 2 rfl)) ?_
        have HE' : Env (putL X2 (w.heap.size + 1 + 1) 0 [.int .i64 0, .int .i64 0, .slice none 0 0]) [⟨w.heap.size, 31, [.int .i64 x, .int .i64 y, .int .i64 t, .bool f]⟩, ⟨w.heap.size + 1, 27, [.int .i64 Wd, .int .i64 Ht, .slice A xs.length k]⟩, ⟨w.heap.size + 1 + 1, 27, [.int .i64 0, .int .i64 0, .slice none 0 0]⟩] := HE.out.putF 2 rfl rfl
        have HB' := putL_below (show w.heap.size ≤ w.heap.size + 1 + 1 from by omega) [.int .i64 0, .int .i64 0, .slice none 0 0] _ 0 HB.out
        generalize putL X2 (w.heap.size + 1 + 1) 0 [.int .i64 0, .int .i64 0, .slice none 0 0] = X3 at *
        replace HE := Hd.mk HE'
        replace HB := Hd.mk HB'
        clear HE' HB'
        go_wp2_with fail
        have k0a := HE.out.cell 2 0 rfl rfl
        have k0b := HE.out.cell 2 1 rfl rfl
        have k0c := HE.out.cell 2 2 rfl rfl
        refine bodyPost_ret (v := .tuple #[.agg #[.int .i64 0, .int .i64 0, .slice none 0 0], .int .i64 2]) (by simp [results, Try.results13, go_sem, k0a, k0b, k0c]) rfl ?_
        exact ⟨_, rfl, HB.out, _, _, rfl, rfl, rfl⟩
end Go.Proofs.Ytddbmckbankmeaa
set_option linter.unusedVariables false
set_option linter.unusedSimpArgs false
namespace Go.Proofs.Ytddbmckbankmeaa
open Go.RowKit
theorem trn_add (f : Bool) (x y x' y' : Int) : ∀ n, trn f (x + x') (y + y') n = ((trn f x y n).1 + (trn f x' y' n).1, (trn f x y n).2 + (trn f x' y' n).2)
  | 0 => by cases f <;> simp [trn] <;> omega
  | n + 1 => by
    simp only [trn, trn_add f x y x' y' n, rot]
    congr 1
    omega
theorem trn_zero (f : Bool) : ∀ n, trn f 0 0 n = (0, 0)
  | 0 => by cases f <;> rfl
  | n + 1 => by simp [trn, trn_zero f n, rot]
theorem trn_comp (f1 f2 : Bool) (x y : Int) {n1 n2 : Nat} (h1 : n1 < 4) (h2 : n2 < 4) :
    trn f1 (trn f2 x y n2).1 (trn f2 x y n2).2 n1 = trn (f1 != f2) x y ((n1 + if f1 = true then 4 - n2 else n2) % 4) := by
  have a1 : n1 = 0 ∨ n1 = 1 ∨ n1 = 2 ∨ n1 = 3 := by omega
  have a2 : n2 = 0 ∨ n2 = 1 ∨ n2 = 2 ∨ n2 = 3 := by omega
  rcases a1 with rfl | rfl | rfl | rfl <;> rcases a2 with rfl | rfl | rfl | rfl <;> cases f1 <;> cases f2 <;> simp [trn, rot]
theorem neg_mod {a b m : Int} (h : a % m = b % m) : (-a) % m = (-b) % m := by
  have h2 := Int.emod_emod_of_dvd a (Int.dvd_refl m)
  exact (Int.emod_emod_of_dvd _ (Int.dvd_refl m)).symm.trans (by rw [Int.emod_emod_of_dvd _ (Int.dvd_refl m), Int.neg_emod_eq_sub_emod, Int.neg_emod_eq_sub_emod, Int.sub_emod, h, ← Int.sub_emod])
theorem trn_mod (f : Bool) {x y x' y' W H : Int} (hx : x % W = x' % W) (hy : y % H = y' % H) {n : Nat} (hn : n < 4) (hp : n % 2 = 0 ∨ W = H) :
    (trn f x y n).1 % W = (trn f x' y' n).1 % W ∧ (trn f x y n).2 % H = (trn f x' y' n).2 % H := by
  have nx := neg_mod hx
  have ny := neg_mod hy
  have a : n = 0 ∨ n = 1 ∨ n = 2 ∨ n = 3 := by omega
  rcases a with rfl | rfl | rfl | rfl
  · cases f <;> simp [trn, hx, hy, nx]
  · rcases hp with hp | rfl
    · omega
    cases f <;> simp [trn, rot, hx, hy, nx, ny]
  · cases f <;> simp [trn, rot, hx, hy, nx, ny]
  · rcases hp with hp | rfl
    · omega
    cases f <;> simp [trn, rot, hx, hy, nx, ny]
structure Mv where
  x : Int
  y : Int
  t : Int
  f : Bool
structure Al (W H : Int) (m : Mv) : Prop where
  w : 1 ≤ W ∧ W ≤ 8
  h : 1 ≤ H ∧ H ≤ 8
  x : 0 ≤ m.x ∧ m.x < W
  y : 0 ≤ m.y ∧ m.y < H
  t : 0 ≤ m.t ∧ m.t < 4
  p : m.t % 2 = 0 ∨ W = H
theorem al_of {W H x y t : Int} {f : Bool} (h1 : sizeB W H = true) (h2 : alB W H x y t = true) : Al W H ⟨x, y, t, f⟩ := by
  obtain ⟨a, b, c, d, e⟩ := okm h1 h2
  unfold alB at h2
  simp only [Bool.and_eq_true, decide_eq_true_eq, Bool.or_eq_true] at h2
  exact ⟨a, b, c, d, e, h2.2⟩
theorem Al.al {W H : Int} {m : Mv} (h : Al W H m) : alB W H m.x m.y m.t = true := by
  obtain ⟨a, b, c, d, e, g⟩ := h
  unfold alB
  simp only [Bool.and_eq_true, decide_eq_true_eq, Bool.or_eq_true]
  exact ⟨⟨⟨⟨⟨⟨c.1, c.2⟩, d.1⟩, d.2⟩, e.1⟩, e.2⟩, g⟩
def act (W H : Int) (m : Mv) (p : Int × Int) : Int × Int := (((trn m.f p.1 p.2 m.t.toNat).1 + m.x) % W, ((trn m.f p.1 p.2 m.t.toNat).2 + m.y) % H)
def aftM (W H : Int) (m n : Mv) : Mv := ⟨(act W H m (n.x, n.y)).1, (act W H m (n.x, n.y)).2, (m.t + if m.f = true then 4 - n.t else n.t) % 4, m.f != n.f⟩
def invM (W H : Int) (m : Mv) : Mv := ⟨(ivp m.x m.y m.t m.f).1 % W, (ivp m.x m.y m.t m.f).2 % H, ivt m.t m.f, m.f⟩
section
variable {W H : Int} {m n q : Mv}
theorem act_lt (h : Al W H m) (p : Int × Int) : (0 ≤ (act W H m p).1 ∧ (act W H m p).1 < W) ∧ 0 ≤ (act W H m p).2 ∧ (act W H m p).2 < H := by
  have hw := h.w
  have hh := h.h
  exact ⟨⟨Int.emod_nonneg _ (by omega), Int.emod_lt_of_pos _ (by omega)⟩, Int.emod_nonneg _ (by omega), Int.emod_lt_of_pos _ (by omega)⟩
theorem inv_al (h : Al W H m) : Al W H (invM W H m) := by
  have hw := h.w
  have hh := h.h
  have h1 := h.t
  have h2 := h.p
  refine ⟨hw, hh, ⟨Int.emod_nonneg _ (by omega), Int.emod_lt_of_pos _ (by omega)⟩, ⟨Int.emod_nonneg _ (by omega), Int.emod_lt_of_pos _ (by omega)⟩, ?_, ?_⟩
  · show 0 ≤ ivt m.t m.f ∧ ivt m.t m.f < 4
    unfold ivt
    cases m.f <;> simp <;> omega
  · show ivt m.t m.f % 2 = 0 ∨ _
    unfold ivt
    cases m.f <;> simp <;> omega
theorem turn_nat (h : Al W H m) (k : Al W H n) : (aftM W H m n).t.toNat = (m.t.toNat + if m.f = true then 4 - n.t.toNat else n.t.toNat) % 4 := by
  have h1 := h.t
  have k1 := k.t
  show ((m.t + if m.f = true then 4 - n.t else n.t) % 4).toNat = _
  cases m.f <;> simp <;> omega
theorem mod_add {a b c W : Int} (h : a % W = b % W) : (a + c) % W = (b + c) % W := by rw [Int.add_emod, h, ← Int.add_emod]
theorem act_mod (h : Al W H m) {x y x' y' : Int} (hx : x % W = x' % W) (hy : y % H = y' % H) : act W H m (x, y) = act W H m (x', y') := by
  have h1 := h.t
  have h2 := h.p
  have e := trn_mod m.f hx hy (n := m.t.toNat) (by omega) (by omega)
  unfold act
  simp only
  rw [mod_add e.1, mod_add e.2]
theorem act_comp (h : Al W H m) (k : Al W H n) (p : Int × Int) : act W H (aftM W H m n) p = act W H m (act W H n p) := by
  have h1 := h.t
  have k1 := k.t
  have e1 : act W H m (act W H n p) = act W H m ((trn n.f p.1 p.2 n.t.toNat).1 + n.x, (trn n.f p.1 p.2 n.t.toNat).2 + n.y) := act_mod h (by simp [act]) (by simp [act])
  rw [e1]
  unfold act
  simp only
  rw [turn_nat h k, trn_add, trn_comp m.f n.f _ _ (by omega) (by omega)]
  show ((_ + ((_ + m.x) % W)) % W, (_ + ((_ + m.y) % H)) % H) = _
  simp only [Int.add_emod_emod, Int.add_assoc]
  rfl
theorem inv_one (h : Al W H m) : aftM W H (invM W H m) m = ⟨0, 0, 0, false⟩ := by
  have h1 := h.t
  have hz : act W H (invM W H m) (m.x, m.y) = (0, 0) := by
    unfold act
    show (((trn m.f m.x m.y (ivt m.t m.f).toNat).1 + (trn m.f (-m.x) (-m.y) (ivt m.t m.f).toNat).1 % W) % W, ((trn m.f m.x m.y (ivt m.t m.f).toNat).2 + (trn m.f (-m.x) (-m.y) (ivt m.t m.f).toNat).2 % H) % H) = _
    have e := trn_add m.f m.x m.y (-m.x) (-m.y) (ivt m.t m.f).toNat
    rw [Int.add_right_neg, Int.add_right_neg, trn_zero, Prod.mk.injEq] at e
    rw [Int.add_emod_emod, Int.add_emod_emod, ← e.1, ← e.2]
    simp
  have ht : ((invM W H m).t + if (invM W H m).f = true then 4 - m.t else m.t) % 4 = 0 := by
    show (ivt m.t m.f + if m.f = true then 4 - m.t else m.t) % 4 = 0
    unfold ivt
    cases m.f <;> simp <;> omega
  have hf : ((invM W H m).f != m.f) = false := by
    show (m.f != m.f) = false
    cases m.f <;> rfl
  unfold aftM
  rw [hz, ht, hf]
def cellM (W H : Int) (m : Mv) (i : Int) : Int := toC W H m.x m.y m.t m.f i
theorem cell_act (i : Int) : cellM W H m i = (act W H m (i % W, i / W)).2 * W + (act W H m (i % W, i / W)).1 := rfl
theorem cell_lt (h : Al W H m) (i : Int) : 0 ≤ cellM W H m i ∧ cellM W H m i < W * H := toC_lt m.f ⟨h.w, h.h, h.x, h.y, h.t⟩
theorem split_mod {u v : Int} (hu : 0 ≤ u ∧ u < W) : (v * W + u) % W = u ∧ (v * W + u) / W = v := by
  refine ⟨?_, ?_⟩
  · rw [Int.add_comm, Int.add_mul_emod_self_right, Int.emod_eq_of_lt hu.1 hu.2]
  · rw [Int.add_comm, Int.add_mul_ediv_right _ _ (by omega), Int.ediv_eq_zero_of_lt hu.1 hu.2, Int.zero_add]
theorem cell_comp (h : Al W H m) (k : Al W H n) (i : Int) : cellM W H (aftM W H m n) i = cellM W H m (cellM W H n i) := by
  have hu := split_mod (v := (act W H n (i % W, i / W)).2) (act_lt k (i % W, i / W)).1
  rw [cell_act, act_comp h k, cell_act (m := m), cell_act (m := n), hu.1, hu.2]
theorem cell_zero (h1 : 1 ≤ W) (h2 : 1 ≤ H) {i : Int} (hi : 0 ≤ i ∧ i < W * H) : cellM W H ⟨0, 0, 0, false⟩ i = i := by
  have a : i / W < H := Int.ediv_lt_of_lt_mul (by omega) (by rw [Int.mul_comm H W]; exact hi.2)
  have b : 0 ≤ i / W := Int.ediv_nonneg hi.1 (by omega)
  show (i / W + 0) % H * W + (i % W + 0) % W = i
  rw [Int.add_zero, Int.add_zero, Int.emod_eq_of_lt b a, Int.emod_emod_of_dvd _ (Int.dvd_refl W)]
  have := Int.mul_ediv_add_emod i W
  rw [Int.mul_comm]
  exact this
theorem inv_cell (h : Al W H m) {i : Int} (hi : 0 ≤ i ∧ i < W * H) : cellM W H (invM W H m) (cellM W H m i) = i := by
  rw [← cell_comp (inv_al h) h, inv_one h, cell_zero h.w.1 h.h.1 hi]
end
def apM (W H : Int) (m : Mv) (xs : List Int) : List Int := apL W H m.x m.y m.t m.f xs
theorem apS_at (ft : Int → Int) (xs : List Int) : ∀ (k : Nat), (∀ j : Nat, j < k → 0 ≤ ft j ∧ ft j < xs.length) → (∀ i j : Nat, i < k → j < k → ft i = ft j → i = j) → ∀ j : Nat, j < k → (apS ft xs k).getD (ft j).toNat 0 = xs.getD j 0
  | 0, _, _ => fun j hj => by omega
  | k + 1, hr, hi => fun j hj => by
    have hk := hr k (by omega)
    have hj' := hr j hj
    simp only [apS]
    by_cases e : j = k
    · subst e
      rw [List.getD_eq_getElem?_getD, List.getElem?_set_self (by rw [apS_length]; omega)]
      rfl
    · have hne : (ft k).toNat ≠ (ft j).toNat := fun e2 => e (hi j k hj (by omega) (by omega))
      rw [List.getD_eq_getElem?_getD, List.getElem?_set_ne hne, ← List.getD_eq_getElem?_getD]
      exact apS_at ft xs k (fun j hj => hr j (by omega)) (fun i j h1 h2 => hi i j (by omega) (by omega)) j (by omega)
theorem apM_at {W H : Int} {m : Mv} {xs : List Int} (h : Al W H m) (hl : (xs.length : Int) = W * H) {j : Int} (hj : 0 ≤ j ∧ j < W * H) : (apM W H m xs).getD (cellM W H m j).toNat 0 = xs.getD j.toNat 0 := by
  obtain ⟨J, rfl⟩ : ∃ J : Nat, j = J := ⟨j.toNat, by omega⟩
  rw [Int.toNat_natCast]
  refine apS_at (fun q => toC W H m.x m.y m.t m.f q) xs xs.length (fun j hj => by rw [hl]; exact cell_lt h j) (fun i j h1 h2 e => ?_) J (by omega)
  have e1 := inv_cell h (i := (i : Int)) (by omega)
  have e2 := inv_cell h (i := (j : Int)) (by omega)
  have e3 : cellM W H m (i : Int) = cellM W H m (j : Int) := e
  rw [e3, e2] at e1
  omega
theorem apS_bad (ft : Int → Int) (xs : List Int) (h : ∀ x ∈ xs, badc x = false) : ∀ k : Nat, k ≤ xs.length → ∀ x ∈ apS ft xs k, badc x = false
  | 0, _ => fun x hx => by
    simp only [apS] at hx
    rw [(List.mem_replicate.1 hx).2]
    rfl
  | k + 1, hk => fun x hx => by
    simp only [apS] at hx
    rcases List.mem_or_eq_of_mem_set hx with h1 | h1
    · exact apS_bad ft xs h k (by omega) x h1
    · rw [h1, List.getD_eq_getElem?_getD, List.getElem?_eq_getElem (show k < xs.length by omega)]
      exact h _ (List.getElem_mem _)
theorem apL_valid {W H x y t : Int} {f : Bool} {xs : List Int} (h : validB W H xs = true) : validB W H (apL W H x y t f xs) = true := by
  unfold validB at h ⊢
  simp only [Bool.and_eq_true, decide_eq_true_eq, Bool.not_eq_true', List.any_eq_false] at h ⊢
  refine ⟨h.1, ?_, fun x hx => ?_⟩
  · rw [show (apL W H x y t f xs).length = xs.length from apS_length _ _ _]; exact h.2.1
  · rw [apS_bad _ xs (fun y hy => by simpa using h.2.2 y hy) xs.length (Nat.le_refl _) x hx]; simp
end Go.Proofs.Ytddbmckbankmeaa
