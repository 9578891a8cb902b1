/- The program's exported functions on stamps and moves; the reference's Valid. -/
import Derived.Test.YtddbmckbankmeaaSv
set_option linter.unusedVariables false
set_option linter.unusedSimpArgs false
namespace Go.Proofs.Ytddbmckbankmeaa
open Go.RowKit
section
variable {P : Program} {Q : Exit → Act → World → Prop} {ops : Array Oper} {rest : List Oper} {o : Oper} {a : Act} {w : World} {v : Value}
theorem wpList_run (hg : o.guard = none) (hr : (execOp a.eval o).run P w = .ok (.value v) w) (h : wpList P ops Q rest (a.put o.dst v) w) : wpList P ops Q (o :: rest) a w := by
  unfold wpList
  rw [if_pos (by simp [Region.wanted, hg])]
  refine .inl ?_
  unfold Oper.wp
  rw [hr]
  exact h
end
section
variable {Q : Exit → Act → World → Prop} {o : Oper} {a : Act} {w : World} {d : Nat} {x y : Operand} {b1 : Int} {c : Bool} {n1 n2 : Int}
theorem op_buM0 (ho : o.op = .build 31 #[(0, x)]) (h0 : a.eval x = .int .i64 b1) (w : World) : (execOp a.eval o).run Try.prog w = .ok (.value (.agg #[.int .i64 b1, .int .i64 0, .int .i64 0, .bool false])) w := by
  generalize a.eval = ev at h0 ⊢
  unfold execOp
  simp only [ho]
  simp [go_sem, h0]
theorem op_buM2 (ho : o.op = .build 31 #[(2, x)]) (h0 : a.eval x = .int .i64 b1) (w : World) : (execOp a.eval o).run Try.prog w = .ok (.value (.agg #[.int .i64 0, .int .i64 0, .int .i64 b1, .bool false])) w := by
  generalize a.eval = ev at h0 ⊢
  unfold execOp
  simp only [ho]
  simp [go_sem, h0]
theorem op_buM23 (ho : o.op = .build 31 #[(2, x), (3, y)]) (h0 : a.eval x = .int .i64 b1) (h1 : a.eval y = .bool c) (w : World) : (execOp a.eval o).run Try.prog w = .ok (.value (.agg #[.int .i64 0, .int .i64 0, .int .i64 b1, .bool c])) w := by
  generalize a.eval = ev at h0 h1 ⊢
  unfold execOp
  simp only [ho]
  simp [go_sem, h0, h1]
theorem op_lit2 (ho : o.op = .buildSlice 22 2 #[(0, .const (.int .i64 n1)), (1, .const (.int .i64 n2))]) (hd : o.dst = some d) (lo : Nat) (hl : lo ≤ w.heap.size) : o.wp Try.prog a w (Post a w d (isF lo [n1, n2]).p) Q := by
  have hr : (execOp a.eval o).run Try.prog w = .ok (.value (.slice (some ⟨w.heap.size, 0, none⟩) 2 2)) (w.alloc (.cells #[.int .i64 n1, .int .i64 n2] 3)) := by
    have h1 : a.eval (.const (.int .i64 n1)) = .int .i64 n1 := rfl
    have h2 : a.eval (.const (.int .i64 n2)) = .int .i64 n2 := rfl
    generalize a.eval = ev at h1 h2 ⊢
    unfold execOp
    simp only [ho]
    simp [go_sem, h1, h2]
  unfold Oper.wp
  rw [hr]
  show Post a w d _ (a.put o.dst _) _
  rw [hd]
  have hB : Blk (w.alloc (.cells #[.int .i64 n1, .int .i64 n2] 3)) w.heap.size 3 [.int .i64 n1, .int .i64 n2] := heap_alloc_new _ _
  exact ⟨_, rfl, below_alloc (Below.refl _ _) _, w.heap.size, 2, [], rfl, hl, Nat.le_refl _, by omega, by simpa [ints] using hB⟩
end
theorem valid_some {w : World} {A : Option Addr} {xs : List Int} {W H : Int} (hr : RI w A xs) (h : validB W H xs = true) : ∃ ad, A = some ad := by
  unfold validB at h
  simp only [Bool.and_eq_true, decide_eq_true_eq] at h
  obtain ⟨hw, hh⟩ := sizeB_bounds h.1
  have h1 : 1 * 1 ≤ W * H := Int.mul_le_mul hw.1 hh.1 (by omega) (by omega)
  obtain ⟨ad, e, _⟩ := hr.at_ (k := 0) (by omega)
  exact ⟨ad, e⟩
theorem valid_len {xs : List Int} {W H : Int} (h : validB W H xs = true) : (xs.length : Int) = W * H := by
  unfold validB at h
  simp only [Bool.and_eq_true, decide_eq_true_eq] at h
  exact h.2.1
theorem valid_size {xs : List Int} {W H : Int} (h : validB W H xs = true) : sizeB W H = true := by
  unfold validB at h
  simp only [Bool.and_eq_true] at h
  exact h.1
theorem valid_no {xs : List Int} {W H : Int} {q : Nat} (h : badc (xs.getD q 0) = true) (hq : q < xs.length) : validB W H xs = false := by
  have : xs.any badc = true := by
    rw [List.any_eq_true]
    exact ⟨xs[q], List.getElem_mem hq, by rwa [show xs.getD q 0 = xs[q] by simp [hq]] at h⟩
  unfold validB
  rw [this]
  simp
theorem valid_yes {xs : List Int} {W H : Int} (h1 : sizeB W H = true) (h2 : (xs.length : Int) = W * H) (h : ∀ j : Nat, j < xs.length → badc (xs.getD j 0) = false) : validB W H xs = true := by
  have : xs.any badc = false := by
    rw [List.any_eq_false]
    intro x hx
    obtain ⟨j, hj, rfl⟩ := List.getElem_of_mem hx
    have := h j hj
    simpa [hj] using this
  unfold validB
  rw [this, h1, decide_eq_true h2]
  rfl
/-- The move that undoes one. -/
def ivt (t : Int) (f : Bool) : Int := if f = true then t else (4 - t) % 4
def ivp (x y t : Int) (f : Bool) : Int × Int := trn f (-x) (-y) (ivt t f).toNat

set_option maxRecDepth 100000 in
set_option maxHeartbeats 1000000 in
theorem rValid_got (Wd Ht : Int) (A : Option Addr) (k : Nat) (xs : List Int) (w : World) (hri : RI w A xs) :
    Calls Try.prog 17 #[.agg #[.int .i64 Wd, .int .i64 Ht, .slice A xs.length k]] w (Got w (isV (.bool (validB Wd Ht xs))).p) := by
  have HRI := Hd.mk hri
  clear hri
  by_cases h1 : sizeB Wd Ht = true
  · have m1 := size_mul h1
    have K1 := Hd.mk h1
    by_cases h2 : (xs.length : Int) = Wd * Ht
    · have K2 : Hd ((!decide (((xs.length : Nat) : Int) = Wd * Ht)) = false) := ⟨by rw [decide_eq_true h2]; rfl⟩
      have hl : xs.length ≤ 64 := by omega
      have K4 := Hd.mk h2
      clear h1 h2
      go_enter Try.func17, Try.ntmps17
      go_upto_region 1 with fail
      obtain ⟨W0, hW0⟩ : ∃ W : World, W = w.alloc (.cells #[.int .i64 Wd, .int .i64 Ht, .slice A xs.length k] 24) := ⟨_, rfl⟩
      rw [← hW0]
      obtain ⟨he, hb⟩ := env_one hW0
      have HE := Hd.mk he
      have HB := Hd.mk hb
      clear he hb hW0
      refine wp_region_vd 17 [5, 6, 7, 8, 9, 10, 11, 12, 13, 14, 15, 16, 17, 18, 19, 20, 21] [0, 2, 5, 6, 7, 10, 12, 14, 15, 16] [] 84 [.int .i64 0, .int .i64 0] [isV (.pointer (some ⟨w.heap.size, 0, none⟩)), isV (.int .i64 Wd), isV (.pointer (some ⟨w.heap.size, 1, none⟩)), isV (.int .i64 Ht), isV (.bool true), isV (.bool false), isV (.bool false), isV (.pointer (some ⟨w.heap.size, 2, none⟩)), isV (.slice A xs.length k), isV (.int .i64 (((xs.length : Nat) : Int))), isV (.pointer (some ⟨w.heap.size, 0, none⟩)), isV (.int .i64 Wd), isV (.pointer (some ⟨w.heap.size, 1, none⟩)), isV (.int .i64 Ht), isV (.int .i64 (Wd * Ht)), isV (.bool false), isV (.bool false)] (by rfl) alloc_Z ?_ ?_
      · intro qi qh qA aa wx hb hs hd
        match qi, qh, qA with
        | 0, _, _ => exact .inl ⟨rfl, ⟨_, op_faU0 rfl (hs 1 rfl), rfl⟩⟩
        | 1, _, _ => exact .inl ⟨rfl, op_ldI rfl rfl (hd 0 rfl) ((HE.out.to hb).cell 0 0 rfl rfl)⟩
        | 2, _, _ => exact .inl ⟨rfl, ⟨_, op_faU1 rfl (hs 1 rfl), rfl⟩⟩
        | 3, _, _ => exact .inl ⟨rfl, op_ldI rfl rfl (hd 2 rfl) ((HE.out.to hb).cell 0 1 rfl rfl)⟩
        | 4, _, _ => exact .inl ⟨rfl, wp_b (bool_eq K1.out) (op_call2 rfl rfl Try.call25 (by rw [(show aa.eval (.tmp 6) = .int .i64 Wd from (hd 1 rfl)), (show aa.eval (.tmp 8) = .int .i64 Ht from (hd 3 rfl))]; exact rSize_got Wd Ht _))⟩
        | 5, _, _ => exact .inl ⟨rfl, ⟨_, op_not rfl (hd 4 rfl), rfl⟩⟩
        | 6, _, _ => exact .inl ⟨rfl, op_mv rfl (hd 5 rfl)⟩
        | 7, _, _ => exact .inl ⟨⟨rfl, .inl (hd 6 rfl)⟩, ⟨_, op_faU2 rfl (hs 1 rfl), rfl⟩⟩
        | 8, _, _ => exact .inl ⟨⟨rfl, .inl (hd 6 rfl)⟩, op_ldS rfl rfl (hd 7 rfl) ((HE.out.to hb).cell 0 2 rfl rfl)⟩
        | 9, _, _ => exact .inl ⟨⟨rfl, .inl (hd 6 rfl)⟩, op_len rfl rfl (hd 8 rfl)⟩
        | 10, _, _ => exact .inl ⟨⟨rfl, .inl (hd 6 rfl)⟩, ⟨_, op_faU0 rfl (hs 1 rfl), rfl⟩⟩
        | 11, _, _ => exact .inl ⟨⟨rfl, .inl (hd 6 rfl)⟩, op_ldI rfl rfl (hd 10 rfl) ((HE.out.to hb).cell 0 0 rfl rfl)⟩
        | 12, _, _ => exact .inl ⟨⟨rfl, .inl (hd 6 rfl)⟩, ⟨_, op_faU1 rfl (hs 1 rfl), rfl⟩⟩
        | 13, _, _ => exact .inl ⟨⟨rfl, .inl (hd 6 rfl)⟩, op_ldI rfl rfl (hd 12 rfl) ((HE.out.to hb).cell 0 1 rfl rfl)⟩
        | 14, _, _ => exact .inl ⟨⟨rfl, .inl (hd 6 rfl)⟩, ⟨_, op_mul (by unfold Fit; omega) rfl (hd 11 rfl) (hd 13 rfl), rfl⟩⟩
        | 15, _, _ => exact .inl ⟨⟨rfl, .inl (hd 6 rfl)⟩, pure_b (bool_eq K2.out) (⟨_, op_neqI rfl (hd 9 rfl) (hd 14 rfl), rfl⟩)⟩
        | 16, _, _ => exact .inl ⟨rfl, ⟨_, op_pickF rfl (hd 6 rfl) (hd 15 rfl), rfl⟩⟩
        | qi + 17, h, _ => omega
      · intro vs X1 hb hv hal hne
        have HL0 := Hd.mk (HE.out.lt)
        have HBW := HB
        replace HB := Hd.mk (bel_then HB.out hb)
        replace HE : Hd (Env X1 [⟨w.heap.size, 24, [.int .i64 Wd, .int .i64 Ht, .slice A xs.length k]⟩]) := ⟨HE.out.to hb⟩
        have HLS := HL0
        have e21 : vs 21 = .bool false := hv 16 (by decide) rfl
        simp only [putAll, List.foldl_cons, List.foldl_nil, Act.put, List.setIfInBounds_toArray, List.set_cons_succ, List.set_cons_zero, List.drop_succ_cons, List.drop_zero, e21]
        generalize vs 5 = s5
        generalize vs 6 = s6
        generalize vs 7 = s7
        generalize vs 8 = s8
        generalize vs 9 = s9
        generalize vs 10 = s10
        generalize vs 11 = s11
        generalize vs 12 = s12
        generalize vs 13 = s13
        generalize vs 14 = s14
        generalize vs 15 = s15
        generalize vs 16 = s16
        generalize vs 17 = s17
        generalize vs 18 = s18
        generalize vs 19 = s19
        generalize vs 20 = s20
        clear hv hal hne hb HL0 HBW HLS e21
        go_upto_region 3 with fail
        refine wp_region_vd 4 [22, 23, 24, 25] [0, 3] [] 84 [.int .i64 0, .int .i64 0] [isV (.pointer (some ⟨w.heap.size, 2, none⟩)), isV (.slice A xs.length k), isV (.int .i64 (((xs.length : Nat) : Int))), isV (.int .i64 0)] (by rfl) alloc_Z ?_ ?_
        · intro qi qh qA aa wx hb hs hd
          match qi, qh, qA with
          | 0, _, _ => exact .inl ⟨rfl, ⟨_, op_faU2 rfl (hs 1 rfl), rfl⟩⟩
          | 1, _, _ => exact .inl ⟨rfl, op_ldS rfl rfl (hd 0 rfl) ((HE.out.to hb).cell 0 2 rfl rfl)⟩
          | 2, _, _ => exact .inl ⟨rfl, op_len rfl rfl (hd 1 rfl)⟩
          | 3, _, _ => exact .inl ⟨rfl, op_mv rfl rfl⟩
          | qi + 4, h, _ => omega
        · intro vs X2 hb hv hal hne
          have HL0 := Hd.mk (HE.out.lt)
          have HBW := HB
          replace HB := Hd.mk (bel_then HB.out hb)
          replace HE : Hd (Env X2 [⟨w.heap.size, 24, [.int .i64 Wd, .int .i64 Ht, .slice A xs.length k]⟩]) := ⟨HE.out.to hb⟩
          have HLS := HL0
          have e23 : vs 23 = .slice A xs.length k := hv 1 (by decide) rfl
          have e24 : vs 24 = .int .i64 (((xs.length : Nat) : Int)) := hv 2 (by decide) rfl
          have e25 : vs 25 = .int .i64 0 := hv 3 (by decide) rfl
          simp only [putAll, List.foldl_cons, List.foldl_nil, Act.put, List.setIfInBounds_toArray, List.set_cons_succ, List.set_cons_zero, List.drop_succ_cons, List.drop_zero, e23, e24, e25]
          generalize vs 22 = s22
          clear hv hal hne hb HL0 HBW HLS e23 e24 e25
          go_wp2_with fail
          go_loopw [4, 25] (fun s4 s25 wr => ∃ q : Nat, q ≤ xs.length ∧ s25 = .int .i64 q ∧ (∀ j : Nat, j < q → badc (xs.getD j 0) = false) ∧ Below w.heap.size w wr) (fun _ s25 _ => xs.length - (intOf s25).toNat)
          case atStart => exact ⟨0, Nat.zero_le _, rfl, (fun j hj => absurd hj (by omega)), HB.out⟩
          case round =>
            obtain ⟨q, hq, rfl, hno, hb⟩ := hrel
            clear HB HE
            have HB := Hd.mk hb
            have HNO := Hd.mk hno
            clear hb hno
            by_cases hlt : q < xs.length
            · obtain ⟨ad, rfl, hcell⟩ := (HRI.out.to HB.out).at_ hlt
              obtain ⟨c, hc⟩ : ∃ c, c = xs.getD q 0 := ⟨_, rfl⟩
              rw [← hc] at hcell
              have HC := Hd.mk hc
              clear hc
              by_cases h1 : c < 0
              · have HV := Hd.mk (valid_no (W := Wd) (H := Ht) (q := q) (by rw [← HC.out]; unfold badc; simp [h1]) hlt)
                go_wp2
                go_ret
                exact ⟨_, rfl, HB.out, by show Value.bool false = _; rw [HV.out]⟩
              · by_cases h2 : 7 < c
                · have HV := Hd.mk (valid_no (W := Wd) (H := Ht) (q := q) (by rw [← HC.out]; unfold badc; simp; omega) hlt)
                  go_wp2
                  go_ret
                  exact ⟨_, rfl, HB.out, by show Value.bool false = _; rw [HV.out]⟩
                · have HG : Hd (badc c = false) := ⟨by unfold badc; simp; omega⟩
                  go_wp2
                  go_roundw
                  case rel => exact ⟨q + 1, by omega, by go_num, no_more HNO.out (by rw [← HC.out]; exact HG.out), HB.out⟩
                  case measure => simp [intOf]; omega
            · have hqe : q = xs.length := by omega
              subst hqe
              have HV := Hd.mk (valid_yes K1.out K4.out HNO.out)
              go_wp2
              go_ret
              exact ⟨_, rfl, HB.out, by show Value.bool true = _; rw [HV.out]⟩
    · have K2 : Hd ((!decide (((xs.length : Nat) : Int) = Wd * Ht)) = true) := ⟨by rw [decide_eq_false h2]; rfl⟩
      rw [show validB Wd Ht xs = false by unfold validB; rw [h1, decide_eq_false h2]; rfl]
      clear h1 h2
      go_enter Try.func17, Try.ntmps17
      go_upto_region 1 with fail
      obtain ⟨W0, hW0⟩ : ∃ W : World, W = w.alloc (.cells #[.int .i64 Wd, .int .i64 Ht, .slice A xs.length k] 24) := ⟨_, rfl⟩
      rw [← hW0]
      obtain ⟨he, hb⟩ := env_one hW0
      have HE := Hd.mk he
      have HB := Hd.mk hb
      clear he hb hW0
      refine wp_region_vd 17 [5, 6, 7, 8, 9, 10, 11, 12, 13, 14, 15, 16, 17, 18, 19, 20, 21] [0, 2, 5, 6, 7, 10, 12, 14, 15, 16] [] 84 [.int .i64 0, .int .i64 0] [isV (.pointer (some ⟨w.heap.size, 0, none⟩)), isV (.int .i64 Wd), isV (.pointer (some ⟨w.heap.size, 1, none⟩)), isV (.int .i64 Ht), isV (.bool true), isV (.bool false), isV (.bool false), isV (.pointer (some ⟨w.heap.size, 2, none⟩)), isV (.slice A xs.length k), isV (.int .i64 (((xs.length : Nat) : Int))), isV (.pointer (some ⟨w.heap.size, 0, none⟩)), isV (.int .i64 Wd), isV (.pointer (some ⟨w.heap.size, 1, none⟩)), isV (.int .i64 Ht), isV (.int .i64 (Wd * Ht)), isV (.bool true), isV (.bool true)] (by rfl) alloc_Z ?_ ?_
      · intro qi qh qA aa wx hb hs hd
        match qi, qh, qA with
        | 0, _, _ => exact .inl ⟨rfl, ⟨_, op_faU0 rfl (hs 1 rfl), rfl⟩⟩
        | 1, _, _ => exact .inl ⟨rfl, op_ldI rfl rfl (hd 0 rfl) ((HE.out.to hb).cell 0 0 rfl rfl)⟩
        | 2, _, _ => exact .inl ⟨rfl, ⟨_, op_faU1 rfl (hs 1 rfl), rfl⟩⟩
        | 3, _, _ => exact .inl ⟨rfl, op_ldI rfl rfl (hd 2 rfl) ((HE.out.to hb).cell 0 1 rfl rfl)⟩
        | 4, _, _ => exact .inl ⟨rfl, wp_b (bool_eq K1.out) (op_call2 rfl rfl Try.call25 (by rw [(show aa.eval (.tmp 6) = .int .i64 Wd from (hd 1 rfl)), (show aa.eval (.tmp 8) = .int .i64 Ht from (hd 3 rfl))]; exact rSize_got Wd Ht _))⟩
        | 5, _, _ => exact .inl ⟨rfl, ⟨_, op_not rfl (hd 4 rfl), rfl⟩⟩
        | 6, _, _ => exact .inl ⟨rfl, op_mv rfl (hd 5 rfl)⟩
        | 7, _, _ => exact .inl ⟨⟨rfl, .inl (hd 6 rfl)⟩, ⟨_, op_faU2 rfl (hs 1 rfl), rfl⟩⟩
        | 8, _, _ => exact .inl ⟨⟨rfl, .inl (hd 6 rfl)⟩, op_ldS rfl rfl (hd 7 rfl) ((HE.out.to hb).cell 0 2 rfl rfl)⟩
        | 9, _, _ => exact .inl ⟨⟨rfl, .inl (hd 6 rfl)⟩, op_len rfl rfl (hd 8 rfl)⟩
        | 10, _, _ => exact .inl ⟨⟨rfl, .inl (hd 6 rfl)⟩, ⟨_, op_faU0 rfl (hs 1 rfl), rfl⟩⟩
        | 11, _, _ => exact .inl ⟨⟨rfl, .inl (hd 6 rfl)⟩, op_ldI rfl rfl (hd 10 rfl) ((HE.out.to hb).cell 0 0 rfl rfl)⟩
        | 12, _, _ => exact .inl ⟨⟨rfl, .inl (hd 6 rfl)⟩, ⟨_, op_faU1 rfl (hs 1 rfl), rfl⟩⟩
        | 13, _, _ => exact .inl ⟨⟨rfl, .inl (hd 6 rfl)⟩, op_ldI rfl rfl (hd 12 rfl) ((HE.out.to hb).cell 0 1 rfl rfl)⟩
        | 14, _, _ => exact .inl ⟨⟨rfl, .inl (hd 6 rfl)⟩, ⟨_, op_mul (by unfold Fit; omega) rfl (hd 11 rfl) (hd 13 rfl), rfl⟩⟩
        | 15, _, _ => exact .inl ⟨⟨rfl, .inl (hd 6 rfl)⟩, pure_b (bool_eq K2.out) (⟨_, op_neqI rfl (hd 9 rfl) (hd 14 rfl), rfl⟩)⟩
        | 16, _, _ => exact .inl ⟨rfl, ⟨_, op_pickF rfl (hd 6 rfl) (hd 15 rfl), rfl⟩⟩
        | qi + 17, h, _ => omega
      · intro vs X1 hb hv hal hne
        have HL0 := Hd.mk (HE.out.lt)
        have HBW := HB
        replace HB := Hd.mk (bel_then HB.out hb)
        replace HE : Hd (Env X1 [⟨w.heap.size, 24, [.int .i64 Wd, .int .i64 Ht, .slice A xs.length k]⟩]) := ⟨HE.out.to hb⟩
        have HLS := HL0
        have e21 : vs 21 = .bool true := hv 16 (by decide) rfl
        simp only [putAll, List.foldl_cons, List.foldl_nil, Act.put, List.setIfInBounds_toArray, List.set_cons_succ, List.set_cons_zero, List.drop_succ_cons, List.drop_zero, e21]
        generalize vs 5 = s5
        generalize vs 6 = s6
        generalize vs 7 = s7
        generalize vs 8 = s8
        generalize vs 9 = s9
        generalize vs 10 = s10
        generalize vs 11 = s11
        generalize vs 12 = s12
        generalize vs 13 = s13
        generalize vs 14 = s14
        generalize vs 15 = s15
        generalize vs 16 = s16
        generalize vs 17 = s17
        generalize vs 18 = s18
        generalize vs 19 = s19
        generalize vs 20 = s20
        clear hv hal hne hb HL0 HBW HLS e21
        go_wp2_with fail
        go_ret
        exact ⟨_, rfl, HB.out, rfl⟩
  · have h1' : sizeB Wd Ht = false := by simpa using h1
    have K1 := Hd.mk h1'
    rw [show validB Wd Ht xs = false by unfold validB; rw [h1']; rfl]
    clear h1 h1'
    go_enter Try.func17, Try.ntmps17
    go_upto_region 1 with fail
    obtain ⟨W0, hW0⟩ : ∃ W : World, W = w.alloc (.cells #[.int .i64 Wd, .int .i64 Ht, .slice A xs.length k] 24) := ⟨_, rfl⟩
    rw [← hW0]
    obtain ⟨he, hb⟩ := env_one hW0
    have HE := Hd.mk he
    have HB := Hd.mk hb
    clear he hb hW0
    refine wp_region_vd 17 [5, 6, 7, 8, 9, 10, 11, 12, 13, 14, 15, 16, 17, 18, 19, 20, 21] [0, 2, 5, 6, 16] [] 84 [.int .i64 0, .int .i64 0] [isV (.pointer (some ⟨w.heap.size, 0, none⟩)), isV (.int .i64 Wd), isV (.pointer (some ⟨w.heap.size, 1, none⟩)), isV (.int .i64 Ht), isV (.bool false), isV (.bool true), isV (.bool true), isV undef, isV undef, isV undef, isV undef, isV undef, isV undef, isV undef, isV undef, isV undef, isV (.bool true)] (by rfl) alloc_Z ?_ ?_
    · intro qi qh qA aa wx hb hs hd
      match qi, qh, qA with
      | 0, _, _ => exact .inl ⟨rfl, ⟨_, op_faU0 rfl (hs 1 rfl), rfl⟩⟩
      | 1, _, _ => exact .inl ⟨rfl, op_ldI rfl rfl (hd 0 rfl) ((HE.out.to hb).cell 0 0 rfl rfl)⟩
      | 2, _, _ => exact .inl ⟨rfl, ⟨_, op_faU1 rfl (hs 1 rfl), rfl⟩⟩
      | 3, _, _ => exact .inl ⟨rfl, op_ldI rfl rfl (hd 2 rfl) ((HE.out.to hb).cell 0 1 rfl rfl)⟩
      | 4, _, _ => exact .inl ⟨rfl, wp_b (bool_eq K1.out) (op_call2 rfl rfl Try.call25 (by rw [(show aa.eval (.tmp 6) = .int .i64 Wd from (hd 1 rfl)), (show aa.eval (.tmp 8) = .int .i64 Ht from (hd 3 rfl))]; exact rSize_got Wd Ht _))⟩
      | 5, _, _ => exact .inl ⟨rfl, ⟨_, op_not rfl (hd 4 rfl), rfl⟩⟩
      | 6, _, _ => exact .inl ⟨rfl, op_mv rfl (hd 5 rfl)⟩
      | 7, _, _ => exact .inr ⟨⟨rfl, .inl (hd 6 rfl)⟩, rfl⟩
      | 8, _, _ => exact .inr ⟨⟨rfl, .inl (hd 6 rfl)⟩, rfl⟩
      | 9, _, _ => exact .inr ⟨⟨rfl, .inl (hd 6 rfl)⟩, rfl⟩
      | 10, _, _ => exact .inr ⟨⟨rfl, .inl (hd 6 rfl)⟩, rfl⟩
      | 11, _, _ => exact .inr ⟨⟨rfl, .inl (hd 6 rfl)⟩, rfl⟩
      | 12, _, _ => exact .inr ⟨⟨rfl, .inl (hd 6 rfl)⟩, rfl⟩
      | 13, _, _ => exact .inr ⟨⟨rfl, .inl (hd 6 rfl)⟩, rfl⟩
      | 14, _, _ => exact .inr ⟨⟨rfl, .inl (hd 6 rfl)⟩, rfl⟩
      | 15, _, _ => exact .inr ⟨⟨rfl, .inl (hd 6 rfl)⟩, rfl⟩
      | 16, _, _ => exact .inl ⟨rfl, ⟨_, op_pickT rfl (hd 6 rfl) rfl, rfl⟩⟩
      | qi + 17, h, _ => omega
    · intro vs X1 hb hv hal hne
      have HL0 := Hd.mk (HE.out.lt)
      have HBW := HB
      replace HB := Hd.mk (bel_then HB.out hb)
      replace HE : Hd (Env X1 [⟨w.heap.size, 24, [.int .i64 Wd, .int .i64 Ht, .slice A xs.length k]⟩]) := ⟨HE.out.to hb⟩
      have HLS := HL0
      have e21 : vs 21 = .bool true := hv 16 (by decide) rfl
      simp only [putAll, List.foldl_cons, List.foldl_nil, Act.put, List.setIfInBounds_toArray, List.set_cons_succ, List.set_cons_zero, List.drop_succ_cons, List.drop_zero, e21]
      generalize vs 5 = s5
      generalize vs 6 = s6
      generalize vs 7 = s7
      generalize vs 8 = s8
      generalize vs 9 = s9
      generalize vs 10 = s10
      generalize vs 11 = s11
      generalize vs 12 = s12
      generalize vs 13 = s13
      generalize vs 14 = s14
      generalize vs 15 = s15
      generalize vs 16 = s16
      generalize vs 17 = s17
      generalize vs 18 = s18
      generalize vs 19 = s19
      generalize vs 20 = s20
      clear hv hal hne hb HL0 HBW HLS e21
      go_wp2_with fail
      go_ret
      exact ⟨_, rfl, HB.out, rfl⟩
set_option maxRecDepth 100000 in
set_option maxHeartbeats 1000000 in
theorem Apply_ad (Wd Ht x y t : Int) (f : Bool) (ad : Addr) (k : Nat) (xs : List Int) (w : World) (hri : RI w (some ad) xs) (hv : validB Wd Ht xs = true) (hm : alB Wd Ht x y t = true) :
    Calls Try.prog 13 #[.agg #[.int .i64 x, .int .i64 y, .int .i64 t, .bool f], .agg #[.int .i64 Wd, .int .i64 Ht, .slice (some ad) xs.length k]] w (Got w (isP (isFS w.heap.size Wd Ht (apL Wd Ht x y t f xs)) (isV (.int .i64 0))).p) := by
  have HRI := Hd.mk hri
  have HV := Hd.mk hv
  have HM := Hd.mk hm
  have HK := Hd.mk (okm (valid_size hv) hm)
  have HLN := Hd.mk (valid_len hv)
  clear hri hv hm
  go_enter Try.func13, Try.ntmps13
  go_upto_region 1 with fail
  obtain ⟨W0, hW0⟩ : ∃ W : World, W = ((w.alloc (.cells #[.int .i64 x, .int .i64 y, .int .i64 t, .bool f] 31)).alloc (.cells #[.int .i64 Wd, .int .i64 Ht, .slice (some ad) xs.length k] 27)).alloc (.cells #[.int .i64 0, .int .i64 0, .slice none 0 0] 27) := ⟨_, rfl⟩
  rw [← hW0]
  obtain ⟨he, hb⟩ := env_three hW0
  have HE := Hd.mk he
  have HB := Hd.mk hb
  clear he hb hW0
  refine wp_region_vg 10 [6, 7, 8, 9, 10, 11, 12, 13, 14, 15] [2, 3, 8, 9] [] 84 [.int .i64 0, .int .i64 0] [isV (.agg #[.int .i64 Wd, .int .i64 Ht, .slice (some ad) xs.length k]), isV (.bool true), isV (.bool false), isV (.bool false), isV (.agg #[.int .i64 Wd, .int .i64 Ht, .slice (some ad) xs.length k]), isV (.agg #[.int .i64 Wd, .int .i64 Ht]), isV (.agg #[.int .i64 x, .int .i64 y, .int .i64 t, .bool f]), isV (.bool true), isV (.bool false), isV (.bool false)] (by kernel_rfl) (by kernel_rfl) (by kernel_rfl) (by rfl) alloc_Z (fun d v c a w h => by cases d <;> exact h) ?_ ?_
  · intro qi qh qA aa wx hb hs hd
    match qi, qh, qA with
    | 0, _, _ => exact .inl ⟨rfl, op_ldT rfl rfl (hs 3 rfl) ((HE.out.to hb).get 1 rfl)⟩
    | 1, _, _ => exact .inl ⟨rfl, wp_b (bool_eq HV.out) (op_call1 rfl rfl Try.call16 (by rw [(show aa.eval (.tmp 6) = .agg #[.int .i64 Wd, .int .i64 Ht, .slice (some ad) xs.length k] from (hd 0 rfl))]; exact Valid_got Wd Ht (some ad) k xs _ (HRI.out.to (bel_then HB.out hb))))⟩
    | 2, _, _ => exact .inl ⟨rfl, ⟨_, op_not rfl (hd 1 rfl), rfl⟩⟩
    | 3, _, _ => exact .inl ⟨rfl, op_mv rfl (hd 2 rfl)⟩
    | 4, _, _ => exact .inl ⟨⟨rfl, .inl (hd 3 rfl)⟩, op_ldT rfl rfl (hs 3 rfl) ((HE.out.to hb).get 1 rfl)⟩
    | 5, _, _ => exact .inl ⟨⟨rfl, .inl (hd 3 rfl)⟩, op_call1 rfl rfl Try.call50 (by rw [(show aa.eval (.tmp 10) = .agg #[.int .i64 Wd, .int .i64 Ht, .slice (some ad) xs.length k] from (hd 4 rfl))]; exact size_got Wd Ht (some ad) xs.length k _)⟩
    | 6, _, _ => exact .inl ⟨⟨rfl, .inl (hd 3 rfl)⟩, op_ldM rfl rfl (hs 2 rfl) ((HE.out.to hb).get 0 rfl)⟩
    | 7, _, _ => exact .inl ⟨⟨rfl, .inl (hd 3 rfl)⟩, wp_b (bool_eq HM.out) (op_call2 rfl rfl Try.call51 (by rw [(show aa.eval (.tmp 11) = .agg #[.int .i64 Wd, .int .i64 Ht] from (hd 5 rfl)), (show aa.eval (.tmp 12) = .agg #[.int .i64 x, .int .i64 y, .int .i64 t, .bool f] from (hd 6 rfl))]; exact allows_got Wd Ht x y t f _))⟩
    | 8, _, _ => exact .inl ⟨⟨rfl, .inl (hd 3 rfl)⟩, ⟨_, op_not rfl (hd 7 rfl), rfl⟩⟩
    | 9, _, _ => exact .inl ⟨rfl, ⟨_, op_pickF rfl (hd 3 rfl) (hd 8 rfl), rfl⟩⟩
    | qi + 10, h, _ => omega
  · intro vs X1 hb hv hal hne
    have HL0 := Hd.mk (HE.out.lt)
    have HBW := HB
    replace HB := Hd.mk (bel_then HB.out hb)
    replace HE : Hd (Env X1 [⟨w.heap.size, 31, [.int .i64 x, .int .i64 y, .int .i64 t, .bool f]⟩, ⟨w.heap.size + 1, 27, [.int .i64 Wd, .int .i64 Ht, .slice (some ad) xs.length k]⟩, ⟨w.heap.size + 1 + 1, 27, [.int .i64 0, .int .i64 0, .slice none 0 0]⟩]) := ⟨HE.out.to hb⟩
    have HLS := HL0
    have e15 : vs 15 = .bool false := hv 9 (by decide) rfl
    simp only [putAll, List.foldl_cons, List.foldl_nil, Act.put, List.setIfInBounds_toArray, List.set_cons_succ, List.set_cons_zero, List.drop_succ_cons, List.drop_zero, e15]
    generalize vs 6 = s6
    generalize vs 7 = s7
    generalize vs 8 = s8
    generalize vs 9 = s9
    generalize vs 10 = s10
    generalize vs 11 = s11
    generalize vs 12 = s12
    generalize vs 13 = s13
    generalize vs 14 = s14
    clear hv hal hne hb HL0 HBW HLS e15
    go_upto_region 3 with fail
    have HWS := Hd.mk HB.out.size
    refine wp_region_vs 5 [17, 18, 19, 20, 21] [] [] 84 [.int .i64 0, .int .i64 0] [isV (.agg #[.int .i64 Wd, .int .i64 Ht, .slice (some ad) xs.length k]), isV (.agg #[.int .i64 Wd, .int .i64 Ht]), isV (.agg #[.int .i64 x, .int .i64 y, .int .i64 t, .bool f]), isV (.agg #[.int .i64 Wd, .int .i64 Ht, .slice (some ad) xs.length k]), isFS X1.heap.size Wd Ht (apL Wd Ht x y t f xs)] (by kernel_rfl) (by kernel_rfl) (by kernel_rfl) (by rfl) alloc_Z (fun d v c a w h => by cases d <;> exact h) ?_ ?_
    · intro qi qh qA aa wx hb hs hd
      match qi, qh, qA with
      | 0, _, _ => exact op_ldT rfl rfl (hs 3 rfl) ((HE.out.to hb).get 1 rfl)
      | 1, _, _ => exact op_call1 rfl rfl Try.call50 (by rw [(show aa.eval (.tmp 17) = .agg #[.int .i64 Wd, .int .i64 Ht, .slice (some ad) xs.length k] from (hd 0 rfl))]; exact size_got Wd Ht (some ad) xs.length k _)
      | 2, _, _ => exact op_ldM rfl rfl (hs 2 rfl) ((HE.out.to hb).get 0 rfl)
      | 3, _, _ => exact op_ldT rfl rfl (hs 3 rfl) ((HE.out.to hb).get 1 rfl)
      | 4, _, _ => exact op_call3 rfl rfl Try.call52 (by rw [(show aa.eval (.tmp 18) = .agg #[.int .i64 Wd, .int .i64 Ht] from (hd 1 rfl)), (show aa.eval (.tmp 19) = .agg #[.int .i64 x, .int .i64 y, .int .i64 t, .bool f] from (hd 2 rfl)), (show aa.eval (.tmp 20) = .agg #[.int .i64 Wd, .int .i64 Ht, .slice (some ad) xs.length k] from (hd 3 rfl))]; exact got_fs hb.size (apply_got Wd Ht x y t f ad k xs _ (HRI.out.to (bel_then HB.out hb)) HK.out HLN.out))
      | qi + 5, h, _ => omega
    · intro vs X2 hb hv hal hne
      have HL0 := Hd.mk (HE.out.lt)
      have HBW := HB
      replace HB := Hd.mk (bel_then HB.out hb)
      replace HE : Hd (Env X2 [⟨w.heap.size, 31, [.int .i64 x, .int .i64 y, .int .i64 t, .bool f]⟩, ⟨w.heap.size + 1, 27, [.int .i64 Wd, .int .i64 Ht, .slice (some ad) xs.length k]⟩, ⟨w.heap.size + 1 + 1, 27, [.int .i64 0, .int .i64 0, .slice none 0 0]⟩]) := ⟨HE.out.to hb⟩
      have HLS := HL0
      have t21 : (isFS X1.heap.size Wd Ht (apL Wd Ht x y t f xs)).p (vs 21) X2 := hv 4 (by decide) rfl
      obtain ⟨g21, k21, rest21, e21, l21, m21, n21, b21⟩ := t21
      replace HE : Hd (Env X2 [⟨w.heap.size, 31, [.int .i64 x, .int .i64 y, .int .i64 t, .bool f]⟩, ⟨w.heap.size + 1, 27, [.int .i64 Wd, .int .i64 Ht, .slice (some ad) xs.length k]⟩, ⟨w.heap.size + 1 + 1, 27, [.int .i64 0, .int .i64 0, .slice none 0 0]⟩, ⟨g21, 3, ints (apL Wd Ht x y t f xs) ++ rest21⟩]) := ⟨Env.addne (e := ⟨g21, 3, ints (apL Wd Ht x y t f xs) ++ rest21⟩) HE.out b21 (fun e' he => Nat.ne_of_lt (Nat.lt_of_lt_of_le (HL0.out e' he) l21))⟩
      have G21 : Hd (w.heap.size ≤ g21) := ⟨Nat.le_trans HBW.out.size l21⟩
      simp only [putAll, List.foldl_cons, List.foldl_nil, Act.put, List.setIfInBounds_toArray, List.set_cons_succ, List.set_cons_zero, List.drop_succ_cons, List.drop_zero, e21]
      generalize vs 17 = s17
      generalize vs 18 = s18
      generalize vs 19 = s19
      generalize vs 20 = s20
      clear hv hal hne hb HL0 HBW HLS e21 l21 b21
      refine wpList_st rfl rfl rfl rfl rfl (sto_T (HE.out.get 2 rfl)) ?_
      have HE' : Env (putL X2 (w.heap.size + 1 + 1) 0 [.int .i64 Wd, .int .i64 Ht, .slice (some ⟨g21, 0, none⟩) ((apL Wd Ht x y t f xs).length) k21]) [⟨w.heap.size, 31, [.int .i64 x, .int .i64 y, .int .i64 t, .bool f]⟩, ⟨w.heap.size + 1, 27, [.int .i64 Wd, .int .i64 Ht, .slice (some ad) xs.length k]⟩, ⟨w.heap.size + 1 + 1, 27, [.int .i64 Wd, .int .i64 Ht, .slice (some ⟨g21, 0, none⟩) ((apL Wd Ht x y t f xs).length) k21]⟩, ⟨g21, 3, ints (apL Wd Ht x y t f xs) ++ rest21⟩] := HE.out.putF 2 rfl rfl
      have HB' := putL_below (show w.heap.size ≤ w.heap.size + 1 + 1 from by omega) [.int .i64 Wd, .int .i64 Ht, .slice (some ⟨g21, 0, none⟩) ((apL Wd Ht x y t f xs).length) k21] _ 0 HB.out
      generalize putL X2 (w.heap.size + 1 + 1) 0 [.int .i64 Wd, .int .i64 Ht, .slice (some ⟨g21, 0, none⟩) ((apL Wd Ht x y t f xs).length) k21] = X3 at *
      replace HE := Hd.mk HE'
      replace HB := Hd.mk HB'
      clear HE' HB'
      go_wp2_with fail
      have k0a := HE.out.cell 2 0 rfl rfl
      have k0b := HE.out.cell 2 1 rfl rfl
      have k0c := HE.out.cell 2 2 rfl rfl
      refine bodyPost_ret (v := .tuple #[.agg #[.int .i64 Wd, .int .i64 Ht, .slice (some ⟨g21, 0, none⟩) ((apL Wd Ht x y t f xs).length) k21], .int .i64 0]) (by simp [results, Try.results13, go_sem, k0a, k0b, k0c]) rfl ?_
      exact ⟨_, rfl, HB.out, _, _, rfl, ⟨g21, k21, rest21, rfl, G21.out, m21, n21, HE.out.get 3 rfl⟩, rfl⟩
set_option maxRecDepth 100000 in
set_option maxHeartbeats 1000000 in
theorem Apply_no (Wd Ht x y t : Int) (f : Bool) (A : Option Addr) (k : Nat) (xs : List Int) (w : World) (hri : RI w A xs) (hm : (validB Wd Ht xs && alB Wd Ht x y t) = false) :
    Calls Try.prog 13 #[.agg #[.int .i64 x, .int .i64 y, .int .i64 t, .bool f], .agg #[.int .i64 Wd, .int .i64 Ht, .slice A xs.length k]] w (Got w (isP (isV (.agg #[.int .i64 0, .int .i64 0, .slice none 0 0])) (isV (.int .i64 2))).p) := by
  have HRI := Hd.mk hri
  clear hri
  by_cases hv : validB Wd Ht xs = true
  · have hm' : alB Wd Ht x y t = false := by rw [hv] at hm; simpa using hm
    have HV := Hd.mk hv
    have HM := Hd.mk hm'
    clear hv hm hm'
    go_enter Try.func13, Try.ntmps13
    go_upto_region 1 with fail
    obtain ⟨W0, hW0⟩ : ∃ W : World, W = ((w.alloc (.cells #[.int .i64 x, .int .i64 y, .int .i64 t, .bool f] 31)).alloc (.cells #[.int .i64 Wd, .int .i64 Ht, .slice A xs.length k] 27)).alloc (.cells #[.int .i64 0, .int .i64 0, .slice none 0 0] 27) := ⟨_, rfl⟩
    rw [← hW0]
    obtain ⟨he, hb⟩ := env_three hW0
    have HE := Hd.mk he
    have HB := Hd.mk hb
    clear he hb hW0
    refine wp_region_vg 10 [6, 7, 8, 9, 10, 11, 12, 13, 14, 15] [2, 3, 8, 9] [] 84 [.int .i64 0, .int .i64 0] [isV (.agg #[.int .i64 Wd, .int .i64 Ht, .slice A xs.length k]), isV (.bool true), isV (.bool false), isV (.bool false), isV (.agg #[.int .i64 Wd, .int .i64 Ht, .slice A xs.length k]), isV (.agg #[.int .i64 Wd, .int .i64 Ht]), isV (.agg #[.int .i64 x, .int .i64 y, .int .i64 t, .bool f]), isV (.bool false), isV (.bool true), isV (.bool true)] (by kernel_rfl) (by kernel_rfl) (by kernel_rfl) (by rfl) alloc_Z (fun d v c a w h => by cases d <;> exact h) ?_ ?_
    · intro qi qh qA aa wx hb hs hd
      match qi, qh, qA with
      | 0, _, _ => exact .inl ⟨rfl, op_ldT rfl rfl (hs 3 rfl) ((HE.out.to hb).get 1 rfl)⟩
      | 1, _, _ => exact .inl ⟨rfl, wp_b (bool_eq HV.out) (op_call1 rfl rfl Try.call16 (by rw [(show aa.eval (.tmp 6) = .agg #[.int .i64 Wd, .int .i64 Ht, .slice A xs.length k] from (hd 0 rfl))]; exact Valid_got Wd Ht A k xs _ (HRI.out.to (bel_then HB.out hb))))⟩
      | 2, _, _ => exact .inl ⟨rfl, ⟨_, op_not rfl (hd 1 rfl), rfl⟩⟩
      | 3, _, _ => exact .inl ⟨rfl, op_mv rfl (hd 2 rfl)⟩
      | 4, _, _ => exact .inl ⟨⟨rfl, .inl (hd 3 rfl)⟩, op_ldT rfl rfl (hs 3 rfl) ((HE.out.to hb).get 1 rfl)⟩
      | 5, _, _ => exact .inl ⟨⟨rfl, .inl (hd 3 rfl)⟩, op_call1 rfl rfl Try.call50 (by rw [(show aa.eval (.tmp 10) = .agg #[.int .i64 Wd, .int .i64 Ht, .slice A xs.length k] from (hd 4 rfl))]; exact size_got Wd Ht A xs.length k _)⟩
      | 6, _, _ => exact .inl ⟨⟨rfl, .inl (hd 3 rfl)⟩, op_ldM rfl rfl (hs 2 rfl) ((HE.out.to hb).get 0 rfl)⟩
      | 7, _, _ => exact .inl ⟨⟨rfl, .inl (hd 3 rfl)⟩, wp_b (bool_eq HM.out) (op_call2 rfl rfl Try.call51 (by rw [(show aa.eval (.tmp 11) = .agg #[.int .i64 Wd, .int .i64 Ht] from (hd 5 rfl)), (show aa.eval (.tmp 12) = .agg #[.int .i64 x, .int .i64 y, .int .i64 t, .bool f] from (hd 6 rfl))]; exact allows_got Wd Ht x y t f _))⟩
      | 8, _, _ => exact .inl ⟨⟨rfl, .inl (hd 3 rfl)⟩, ⟨_, op_not rfl (hd 7 rfl), rfl⟩⟩
      | 9, _, _ => exact .inl ⟨rfl, ⟨_, op_pickF rfl (hd 3 rfl) (hd 8 rfl), rfl⟩⟩
      | qi + 10, h, _ => omega
    · intro vs X1 hb hv hal hne
      have HL0 := Hd.mk (HE.out.lt)
      have HBW := HB
      replace HB := Hd.mk (bel_then HB.out hb)
      replace HE : Hd (Env X1 [⟨w.heap.size, 31, [.int .i64 x, .int .i64 y, .int .i64 t, .bool f]⟩, ⟨w.heap.size + 1, 27, [.int .i64 Wd, .int .i64 Ht, .slice A xs.length k]⟩, ⟨w.heap.size + 1 + 1, 27, [.int .i64 0, .int .i64 0, .slice none 0 0]⟩]) := ⟨HE.out.to hb⟩
      have HLS := HL0
      have e15 : vs 15 = .bool true := hv 9 (by decide) rfl
      simp only [putAll, List.foldl_cons, List.foldl_nil, Act.put, List.setIfInBounds_toArray, List.set_cons_succ, List.set_cons_zero, List.drop_succ_cons, List.drop_zero, e15]
      generalize vs 6 = s6
      generalize vs 7 = s7
      generalize vs 8 = s8
      generalize vs 9 = s9
      generalize vs 10 = s10
      generalize vs 11 = s11
      generalize vs 12 = s12
      generalize vs 13 = s13
      generalize vs 14 = s14
      clear hv hal hne hb HL0 HBW HLS e15
      go_upto_region 2 with fail
      refine wp_region_vd 1 [16] [0] [] 84 [.int .i64 0, .int .i64 0] [isV (.agg #[.int .i64 0, .int .i64 0, .slice none 0 0])] (by rfl) alloc_Z ?_ ?_
      · intro qi qh qA aa wx hb hs hd
        match qi, qh, qA with
        | 0, _, _ => exact .inl ⟨rfl, ⟨_, op_b0T rfl, rfl⟩⟩
        | qi + 1, h, _ => omega
      · intro vs X2 hb hv hal hne
        have HL0 := Hd.mk (HE.out.lt)
        have HBW := HB
        replace HB := Hd.mk (bel_then HB.out hb)
        replace HE : Hd (Env X2 [⟨w.heap.size, 31, [.int .i64 x, .int .i64 y, .int .i64 t, .bool f]⟩, ⟨w.heap.size + 1, 27, [.int .i64 Wd, .int .i64 Ht, .slice A xs.length k]⟩, ⟨w.heap.size + 1 + 1, 27, [.int .i64 0, .int .i64 0, .slice none 0 0]⟩]) := ⟨HE.out.to hb⟩
        have HLS := HL0
        have e16 : vs 16 = .agg #[.int .i64 0, .int .i64 0, .slice none 0 0] := hv 0 (by decide) rfl
        simp only [putAll, List.foldl_cons, List.foldl_nil, Act.put, List.setIfInBounds_toArray, List.set_cons_succ, List.set_cons_zero, List.drop_succ_cons, List.drop_zero, e16]
        clear hv hal hne hb HL0 HBW HLS e16
        refine wpList_st rfl rfl rfl rfl rfl (sto_T (HE.out.get 2 rfl)) ?_
        have HE' : Env (putL X2 (w.heap.size + 1 + 1) 0 [.int .i64 0, .int .i64 0, .slice none 0 0]) [⟨w.heap.size, 31, [.int .i64 x, .int .i64 y, .int .i64 t, .bool f]⟩, ⟨w.heap.size + 1, 27, [.int .i64 Wd, .int .i64 Ht, .slice A xs.length k]⟩, ⟨w.heap.size + 1 + 1, 27, [.int .i64 0, .int .i64 0, .slice none 0 0]⟩] := HE.out.putF 2 rfl rfl
        have HB' := putL_below (show w.heap.size ≤ w.heap.size + 1 + 1 from by omega) [.int .i64 0, .int .i64 0, .slice none 0 0] _ 0 HB.out
        generalize putL X2 (w.heap.size + 1 + 1) 0 [.int .i64 0, .int .i64 0, .slice none 0 0] = X3 at *
        replace HE := Hd.mk HE'
        replace HB := Hd.mk HB'
        clear HE' HB'
        go_wp2_with fail
        have k0a := HE.out.cell 2 0 rfl rfl
        have k0b := HE.out.cell 2 1 rfl rfl
        have k0c := HE.out.cell 2 2 rfl rfl
        refine bodyPost_ret (v := .tuple #[.agg #[.int .i64 0, .int .i64 0, .slice none 0 0], .int .i64 2]) (by simp [results, Try.results13, go_sem, k0a, k0b, k0c]) rfl ?_
        exact ⟨_, rfl, HB.out, _, _, rfl, rfl, rfl⟩
  · have hv' : validB Wd Ht xs = false := by simpa using hv
    have HV := Hd.mk hv'
    clear hv hv' hm
    go_enter Try.func13, Try.ntmps13
    go_upto_region 1 with fail
    obtain ⟨W0, hW0⟩ : ∃ W : World, W = ((w.alloc (.cells #[.int .i64 x, .int .i64 y, .int .i64 t, .bool f] 31)).alloc (.cells #[.int .i64 Wd, .int .i64 Ht, .slice A xs.length k] 27)).alloc (.cells #[.int .i64 0, .int .i64 0, .slice none 0 0] 27) := ⟨_, rfl⟩
    rw [← hW0]
    obtain ⟨he, hb⟩ := env_three hW0
    have HE := Hd.mk he
    have HB := Hd.mk hb
    clear he hb hW0
    refine wp_region_vg 10 [6, 7, 8, 9, 10, 11, 12, 13, 14, 15] [2, 3, 9] [] 84 [.int .i64 0, .int .i64 0] [isV (.agg #[.int .i64 Wd, .int .i64 Ht, .slice A xs.length k]), isV (.bool false), isV (.bool true), isV (.bool true), isV undef, isV undef, isV undef, isV undef, isV undef, isV (.bool true)] (by kernel_rfl) (by kernel_rfl) (by kernel_rfl) (by rfl) alloc_Z (fun d v c a w h => by cases d <;> exact h) ?_ ?_
    · intro qi qh qA aa wx hb hs hd
      match qi, qh, qA with
      | 0, _, _ => exact .inl ⟨rfl, op_ldT rfl rfl (hs 3 rfl) ((HE.out.to hb).get 1 rfl)⟩
      | 1, _, _ => exact .inl ⟨rfl, wp_b (bool_eq HV.out) (op_call1 rfl rfl Try.call16 (by rw [(show aa.eval (.tmp 6) = .agg #[.int .i64 Wd, .int .i64 Ht, .slice A xs.length k] from (hd 0 rfl))]; exact Valid_got Wd Ht A k xs _ (HRI.out.to (bel_then HB.out hb))))⟩
      | 2, _, _ => exact .inl ⟨rfl, ⟨_, op_not rfl (hd 1 rfl), rfl⟩⟩
      | 3, _, _ => exact .inl ⟨rfl, op_mv rfl (hd 2 rfl)⟩
      | 4, _, _ => exact .inr ⟨⟨rfl, .inl (hd 3 rfl)⟩, rfl⟩
      | 5, _, _ => exact .inr ⟨⟨rfl, .inl (hd 3 rfl)⟩, rfl⟩
      | 6, _, _ => exact .inr ⟨⟨rfl, .inl (hd 3 rfl)⟩, rfl⟩
      | 7, _, _ => exact .inr ⟨⟨rfl, .inl (hd 3 rfl)⟩, rfl⟩
      | 8, _, _ => exact .inr ⟨⟨rfl, .inl (hd 3 rfl)⟩, rfl⟩
      | 9, _, _ => exact .inl ⟨rfl, ⟨_, op_pickT rfl (hd 3 rfl) rfl, rfl⟩⟩
      | qi + 10, h, _ => omega
    · intro vs X1 hb hv hal hne
      have HL0 := Hd.mk (HE.out.lt)
      have HBW := HB
      replace HB := Hd.mk (bel_then HB.out hb)
      replace HE : Hd (Env X1 [⟨w.heap.size, 31, [.int .i64 x, .int .i64 y, .int .i64 t, .bool f]⟩, ⟨w.heap.size + 1, 27, [.int .i64 Wd, .int .i64 Ht, .slice A xs.length k]⟩, ⟨w.heap.size + 1 + 1, 27, [.int .i64 0, .int .i64 0, .slice none 0 0]⟩]) := ⟨HE.out.to hb⟩
      have HLS := HL0
      have e15 : vs 15 = .bool true := hv 9 (by decide) rfl
      simp only [putAll, List.foldl_cons, List.foldl_nil, Act.put, List.setIfInBounds_toArray, List.set_cons_succ, List.set_cons_zero, List.drop_succ_cons, List.drop_zero, e15]
      generalize vs 6 = s6
      generalize vs 7 = s7
      generalize vs 8 = s8
      generalize vs 9 = s9
      generalize vs 10 = s10
      generalize vs 11 = s11
      generalize vs 12 = s12
      generalize vs 13 = s13
      generalize vs 14 = s14
      clear hv hal hne hb HL0 HBW HLS e15
      go_upto_region 2 with fail
      refine wp_region_vd 1 [16] [0] [] 84 [.int .i64 0, .int .i64 0] [isV (.agg #[.int .i64 0, .int .i64 0, .slice none 0 0])] (by rfl) alloc_Z ?_ ?_
      · intro qi qh qA aa wx hb hs hd
        match qi, qh, qA with
        | 0, _, _ => exact .inl ⟨rfl, ⟨_, op_b0T rfl, rfl⟩⟩
        | qi + 1, h, _ => omega
      · intro vs X2 hb hv hal hne
        have HL0 := Hd.mk (HE.out.lt)
        have HBW := HB
        replace HB := Hd.mk (bel_then HB.out hb)
        replace HE : Hd (Env X2 [⟨w.heap.size, 31, [.int .i64 x, .int .i64 y, .int .i64 t, .bool f]⟩, ⟨w.heap.size + 1, 27, [.int .i64 Wd, .int .i64 Ht, .slice A xs.length k]⟩, ⟨w.heap.size + 1 + 1, 27, [.int .i64 0, .int .i64 0, .slice none 0 0]⟩]) := ⟨HE.out.to hb⟩
        have HLS := HL0
        have e16 : vs 16 = .agg #[.int .i64 0, .int .i64 0, .slice none 0 0] := hv 0 (by decide) rfl
        simp only [putAll, List.foldl_cons, List.foldl_nil, Act.put, List.setIfInBounds_toArray, List.set_cons_succ, List.set_cons_zero, List.drop_succ_cons, List.drop_zero, e16]
        clear hv hal hne hb HL0 HBW HLS e16
        refine wpList_st rfl rfl rfl rfl rfl (sto_T (HE.out.get 2 rfl)) ?_
        have HE' : Env (putL X2 (w.heap.size + 1 + 1) 0 [.int .i64 0, .int .i64 0, .slice none 0 0]) [⟨w.heap.size, 31, [.int .i64 x, .int .i64 y, .int .i64 t, .bool f]⟩, ⟨w.heap.size + 1, 27, [.int .i64 Wd, .int .i64 Ht, .slice A xs.length k]⟩, ⟨w.heap.size + 1 + 1, 27, [.int .i64 0, .int .i64 0, .slice none 0 0]⟩] := HE.out.putF 2 rfl rfl
        have HB' := putL_below (show w.heap.size ≤ w.heap.size + 1 + 1 from by omega) [.int .i64 0, .int .i64 0, .slice none 0 0] _ 0 HB.out
        generalize putL X2 (w.heap.size + 1 + 1) 0 [.int .i64 0, .int .i64 0, .slice none 0 0] = X3 at *
        replace HE := Hd.mk HE'
        replace HB := Hd.mk HB'
        clear HE' HB'
        go_wp2_with fail
        have k0a := HE.out.cell 2 0 rfl rfl
        have k0b := HE.out.cell 2 1 rfl rfl
        have k0c := HE.out.cell 2 2 rfl rfl
        refine bodyPost_ret (v := .tuple #[.agg #[.int .i64 0, .int .i64 0, .slice none 0 0], .int .i64 2]) (by simp [results, Try.results13, go_sem, k0a, k0b, k0c]) rfl ?_
        exact ⟨_, rfl, HB.out, _, _, rfl, rfl, rfl⟩
set_option maxRecDepth 100000 in
set_option maxHeartbeats 1000000 in
theorem After_ok (Wd Ht x1 y1 t1 x2 y2 t2 : Int) (f1 f2 : Bool) (hs : sizeB Wd Ht = true) (h1 : alB Wd Ht x1 y1 t1 = true) (h2 : alB Wd Ht x2 y2 t2 = true) (w : World) :
    Calls Try.prog 23 #[.int .i64 Wd, .int .i64 Ht, .agg #[.int .i64 x1, .int .i64 y1, .int .i64 t1, .bool f1], .agg #[.int .i64 x2, .int .i64 y2, .int .i64 t2, .bool f2]] w (Got w (isP (isV (.agg #[.int .i64 ((aft Wd Ht x1 y1 t1 f1 x2 y2 t2 f2).1), .int .i64 ((aft Wd Ht x1 y1 t1 f1 x2 y2 t2 f2).2.1), .int .i64 ((aft Wd Ht x1 y1 t1 f1 x2 y2 t2 f2).2.2.1), .bool ((aft Wd Ht x1 y1 t1 f1 x2 y2 t2 f2).2.2.2)])) (isV (.int .i64 0))).p) := by
  have HK1 := Hd.mk (okm hs h1)
  have HK2 := Hd.mk (okm hs h2)
  have HS := Hd.mk hs
  have H1 := Hd.mk h1
  have H2 := Hd.mk h2
  clear hs h1 h2
  go_enter Try.func23, Try.ntmps23
  go_upto_region 1 with fail
  obtain ⟨W0, hW0⟩ : ∃ W : World, W = ((w.alloc (.cells #[.int .i64 x1, .int .i64 y1, .int .i64 t1, .bool f1] 31)).alloc (.cells #[.int .i64 x2, .int .i64 y2, .int .i64 t2, .bool f2] 31)).alloc (.cells #[.int .i64 0, .int .i64 0, .int .i64 0, .bool false] 31) := ⟨_, rfl⟩
  rw [← hW0]
  obtain ⟨he, hb⟩ := env_three hW0
  have HE := Hd.mk he
  have HB := Hd.mk hb
  clear he hb hW0
  refine wp_region_vd 4 [11, 12, 13, 10] [0, 1, 2] [3] 84 [.int .i64 0, .int .i64 0] [isV (.int .i64 Wd), isV (.int .i64 Ht), isV (.agg #[.int .i64 Wd, .int .i64 Ht]), SP.any] (by rfl) alloc_Z ?_ ?_
  · intro qi qh qA aa wx hb hs hd
    match qi, qh, qA with
    | 0, _, _ => exact .inl ⟨rfl, op_mv rfl (hs 0 rfl)⟩
    | 1, _, _ => exact .inl ⟨rfl, op_mv rfl (hs 1 rfl)⟩
    | 2, _, _ => exact .inl ⟨rfl, ⟨_, op_buZ rfl (hd 0 rfl) (hd 1 rfl), rfl⟩⟩
    | 3, _, h => cases h
    | qi + 4, h, _ => omega
  · intro vs X1 hb hv hal hne
    have HL0 := Hd.mk (HE.out.lt)
    have HBW := HB
    replace HB := Hd.mk (bel_then HB.out hb)
    replace HE : Hd (Env X1 [⟨w.heap.size, 31, [.int .i64 x1, .int .i64 y1, .int .i64 t1, .bool f1]⟩, ⟨w.heap.size + 1, 31, [.int .i64 x2, .int .i64 y2, .int .i64 t2, .bool f2]⟩, ⟨w.heap.size + 1 + 1, 31, [.int .i64 0, .int .i64 0, .int .i64 0, .bool false]⟩]) := ⟨HE.out.to hb⟩
    have HLS := HL0
    have e13 : vs 13 = .agg #[.int .i64 Wd, .int .i64 Ht] := hv 2 (by decide) rfl
    obtain ⟨g10, e10, l10, b10⟩ : ∃ g, vs 10 = .pointer (some ⟨g, 0, none⟩) ∧ _ := hal 3 rfl
    replace HE : Hd (Env X1 [⟨w.heap.size, 31, [.int .i64 x1, .int .i64 y1, .int .i64 t1, .bool f1]⟩, ⟨w.heap.size + 1, 31, [.int .i64 x2, .int .i64 y2, .int .i64 t2, .bool f2]⟩, ⟨w.heap.size + 1 + 1, 31, [.int .i64 0, .int .i64 0, .int .i64 0, .bool false]⟩, ⟨g10, 84, [.int .i64 0, .int .i64 0]⟩]) := ⟨Env.addne (e := ⟨g10, 84, [.int .i64 0, .int .i64 0]⟩) HE.out b10 (fun e' he => Nat.ne_of_lt (Nat.lt_of_lt_of_le (HL0.out e' he) l10))⟩
    have G10 : Hd (w.heap.size ≤ g10) := ⟨Nat.le_trans HBW.out.size l10⟩
    simp only [putAll, List.foldl_cons, List.foldl_nil, Act.put, List.setIfInBounds_toArray, List.set_cons_succ, List.set_cons_zero, List.drop_succ_cons, List.drop_zero, e13, e10]
    generalize vs 11 = s11
    generalize vs 12 = s12
    clear hv hal hne hb HL0 HBW HLS e13 e10 l10 b10
    refine wpList_st rfl rfl rfl rfl rfl (sto_Z (HE.out.get 3 rfl)) ?_
    have HE' : Env (putL X1 g10 0 [.int .i64 Wd, .int .i64 Ht]) [⟨w.heap.size, 31, [.int .i64 x1, .int .i64 y1, .int .i64 t1, .bool f1]⟩, ⟨w.heap.size + 1, 31, [.int .i64 x2, .int .i64 y2, .int .i64 t2, .bool f2]⟩, ⟨w.heap.size + 1 + 1, 31, [.int .i64 0, .int .i64 0, .int .i64 0, .bool false]⟩, ⟨g10, 84, [.int .i64 Wd, .int .i64 Ht]⟩] := HE.out.putF 3 rfl rfl
    have HB' := putL_below (show w.heap.size ≤ g10 from G10.out) [.int .i64 Wd, .int .i64 Ht] _ 0 HB.out
    generalize putL X1 g10 0 [.int .i64 Wd, .int .i64 Ht] = X2 at *
    replace HE := Hd.mk HE'
    replace HB := Hd.mk HB'
    clear HE' HB'
    go_upto_region 2 with fail
    refine wp_region_vd 15 [14, 15, 16, 17, 18, 19, 20, 21, 22, 23, 24, 25, 26, 27, 28] [2, 3, 7, 8, 9, 13, 14] [] 84 [.int .i64 0, .int .i64 0] [isV (.agg #[.int .i64 Wd, .int .i64 Ht]), isV (.bool true), isV (.bool false), isV (.bool false), isV (.agg #[.int .i64 Wd, .int .i64 Ht]), isV (.agg #[.int .i64 x1, .int .i64 y1, .int .i64 t1, .bool f1]), isV (.bool true), isV (.bool false), isV (.bool false), isV (.bool false), isV (.agg #[.int .i64 Wd, .int .i64 Ht]), isV (.agg #[.int .i64 x2, .int .i64 y2, .int .i64 t2, .bool f2]), isV (.bool true), isV (.bool false), isV (.bool false)] (by rfl) alloc_Z ?_ ?_
    · intro qi qh qA aa wx hb hs hd
      match qi, qh, qA with
      | 0, _, _ => exact .inl ⟨rfl, op_ldZ rfl rfl (hs 10 rfl) ((HE.out.to hb).get 3 rfl)⟩
      | 1, _, _ => exact .inl ⟨rfl, wp_b (bool_eq HS.out) (op_call1 rfl rfl Try.call53 (by rw [(show aa.eval (.tmp 14) = .agg #[.int .i64 Wd, .int .i64 Ht] from (hd 0 rfl))]; exact valid_got Wd Ht _))⟩
      | 2, _, _ => exact .inl ⟨rfl, ⟨_, op_not rfl (hd 1 rfl), rfl⟩⟩
      | 3, _, _ => exact .inl ⟨rfl, op_mv rfl (hd 2 rfl)⟩
      | 4, _, _ => exact .inl ⟨⟨rfl, .inl (hd 3 rfl)⟩, op_ldZ rfl rfl (hs 10 rfl) ((HE.out.to hb).get 3 rfl)⟩
      | 5, _, _ => exact .inl ⟨⟨rfl, .inl (hd 3 rfl)⟩, op_ldM rfl rfl (hs 6 rfl) ((HE.out.to hb).get 0 rfl)⟩
      | 6, _, _ => exact .inl ⟨⟨rfl, .inl (hd 3 rfl)⟩, wp_b (bool_eq H1.out) (op_call2 rfl rfl Try.call51 (by rw [(show aa.eval (.tmp 18) = .agg #[.int .i64 Wd, .int .i64 Ht] from (hd 4 rfl)), (show aa.eval (.tmp 19) = .agg #[.int .i64 x1, .int .i64 y1, .int .i64 t1, .bool f1] from (hd 5 rfl))]; exact allows_got Wd Ht x1 y1 t1 f1 _))⟩
      | 7, _, _ => exact .inl ⟨⟨rfl, .inl (hd 3 rfl)⟩, ⟨_, op_not rfl (hd 6 rfl), rfl⟩⟩
      | 8, _, _ => exact .inl ⟨rfl, ⟨_, op_pickF rfl (hd 3 rfl) (hd 7 rfl), rfl⟩⟩
      | 9, _, _ => exact .inl ⟨rfl, op_mv rfl (hd 8 rfl)⟩
      | 10, _, _ => exact .inl ⟨⟨rfl, .inl (hd 9 rfl)⟩, op_ldZ rfl rfl (hs 10 rfl) ((HE.out.to hb).get 3 rfl)⟩
      | 11, _, _ => exact .inl ⟨⟨rfl, .inl (hd 9 rfl)⟩, op_ldM rfl rfl (hs 7 rfl) ((HE.out.to hb).get 1 rfl)⟩
      | 12, _, _ => exact .inl ⟨⟨rfl, .inl (hd 9 rfl)⟩, wp_b (bool_eq H2.out) (op_call2 rfl rfl Try.call51 (by rw [(show aa.eval (.tmp 24) = .agg #[.int .i64 Wd, .int .i64 Ht] from (hd 10 rfl)), (show aa.eval (.tmp 25) = .agg #[.int .i64 x2, .int .i64 y2, .int .i64 t2, .bool f2] from (hd 11 rfl))]; exact allows_got Wd Ht x2 y2 t2 f2 _))⟩
      | 13, _, _ => exact .inl ⟨⟨rfl, .inl (hd 9 rfl)⟩, ⟨_, op_not rfl (hd 12 rfl), rfl⟩⟩
      | 14, _, _ => exact .inl ⟨rfl, ⟨_, op_pickF rfl (hd 9 rfl) (hd 13 rfl), rfl⟩⟩
      | qi + 15, h, _ => omega
    · intro vs X3 hb hv hal hne
      have HL0 := Hd.mk (HE.out.lt)
      have HBW := HB
      replace HB := Hd.mk (bel_then HB.out hb)
      replace HE : Hd (Env X3 [⟨w.heap.size, 31, [.int .i64 x1, .int .i64 y1, .int .i64 t1, .bool f1]⟩, ⟨w.heap.size + 1, 31, [.int .i64 x2, .int .i64 y2, .int .i64 t2, .bool f2]⟩, ⟨w.heap.size + 1 + 1, 31, [.int .i64 0, .int .i64 0, .int .i64 0, .bool false]⟩, ⟨g10, 84, [.int .i64 Wd, .int .i64 Ht]⟩]) := ⟨HE.out.to hb⟩
      have HLS := HL0
      have e28 : vs 28 = .bool false := hv 14 (by decide) rfl
      simp only [putAll, List.foldl_cons, List.foldl_nil, Act.put, List.setIfInBounds_toArray, List.set_cons_succ, List.set_cons_zero, List.drop_succ_cons, List.drop_zero, e28]
      generalize vs 14 = s14
      generalize vs 15 = s15
      generalize vs 16 = s16
      generalize vs 17 = s17
      generalize vs 18 = s18
      generalize vs 19 = s19
      generalize vs 20 = s20
      generalize vs 21 = s21
      generalize vs 22 = s22
      generalize vs 23 = s23
      generalize vs 24 = s24
      generalize vs 25 = s25
      generalize vs 26 = s26
      generalize vs 27 = s27
      clear hv hal hne hb HL0 HBW HLS e28
      go_upto_region 4 with fail
      refine wp_region_vd 4 [30, 31, 32, 33] [] [] 84 [.int .i64 0, .int .i64 0] [isV (.agg #[.int .i64 Wd, .int .i64 Ht]), isV (.agg #[.int .i64 x1, .int .i64 y1, .int .i64 t1, .bool f1]), isV (.agg #[.int .i64 x2, .int .i64 y2, .int .i64 t2, .bool f2]), isV (.agg #[.int .i64 ((aft Wd Ht x1 y1 t1 f1 x2 y2 t2 f2).1), .int .i64 ((aft Wd Ht x1 y1 t1 f1 x2 y2 t2 f2).2.1), .int .i64 ((aft Wd Ht x1 y1 t1 f1 x2 y2 t2 f2).2.2.1), .bool ((aft Wd Ht x1 y1 t1 f1 x2 y2 t2 f2).2.2.2)])] (by rfl) alloc_Z ?_ ?_
      · intro qi qh qA aa wx hb hs hd
        match qi, qh, qA with
        | 0, _, _ => exact .inl ⟨rfl, op_ldZ rfl rfl (hs 10 rfl) ((HE.out.to hb).get 3 rfl)⟩
        | 1, _, _ => exact .inl ⟨rfl, op_ldM rfl rfl (hs 6 rfl) ((HE.out.to hb).get 0 rfl)⟩
        | 2, _, _ => exact .inl ⟨rfl, op_ldM rfl rfl (hs 7 rfl) ((HE.out.to hb).get 1 rfl)⟩
        | 3, _, _ => exact .inl ⟨rfl, op_call3 rfl rfl Try.call57 (by rw [(show aa.eval (.tmp 30) = .agg #[.int .i64 Wd, .int .i64 Ht] from (hd 0 rfl)), (show aa.eval (.tmp 31) = .agg #[.int .i64 x1, .int .i64 y1, .int .i64 t1, .bool f1] from (hd 1 rfl)), (show aa.eval (.tmp 32) = .agg #[.int .i64 x2, .int .i64 y2, .int .i64 t2, .bool f2] from (hd 2 rfl))]; exact after_got Wd Ht x1 y1 t1 x2 y2 t2 f1 f2 HK1.out HK2.out _)⟩
        | qi + 4, h, _ => omega
      · intro vs X4 hb hv hal hne
        have HL0 := Hd.mk (HE.out.lt)
        have HBW := HB
        replace HB := Hd.mk (bel_then HB.out hb)
        replace HE : Hd (Env X4 [⟨w.heap.size, 31, [.int .i64 x1, .int .i64 y1, .int .i64 t1, .bool f1]⟩, ⟨w.heap.size + 1, 31, [.int .i64 x2, .int .i64 y2, .int .i64 t2, .bool f2]⟩, ⟨w.heap.size + 1 + 1, 31, [.int .i64 0, .int .i64 0, .int .i64 0, .bool false]⟩, ⟨g10, 84, [.int .i64 Wd, .int .i64 Ht]⟩]) := ⟨HE.out.to hb⟩
        have HLS := HL0
        have e33 : vs 33 = .agg #[.int .i64 ((aft Wd Ht x1 y1 t1 f1 x2 y2 t2 f2).1), .int .i64 ((aft Wd Ht x1 y1 t1 f1 x2 y2 t2 f2).2.1), .int .i64 ((aft Wd Ht x1 y1 t1 f1 x2 y2 t2 f2).2.2.1), .bool ((aft Wd Ht x1 y1 t1 f1 x2 y2 t2 f2).2.2.2)] := hv 3 (by decide) rfl
        simp only [putAll, List.foldl_cons, List.foldl_nil, Act.put, List.setIfInBounds_toArray, List.set_cons_succ, List.set_cons_zero, List.drop_succ_cons, List.drop_zero, e33]
        generalize vs 30 = s30
        generalize vs 31 = s31
        generalize vs 32 = s32
        clear hv hal hne hb HL0 HBW HLS e33
        refine wpList_st rfl rfl rfl rfl rfl (sto_M (HE.out.get 2 rfl)) ?_
        have HE' : Env (putL X4 (w.heap.size + 1 + 1) 0 [.int .i64 ((aft Wd Ht x1 y1 t1 f1 x2 y2 t2 f2).1), .int .i64 ((aft Wd Ht x1 y1 t1 f1 x2 y2 t2 f2).2.1), .int .i64 ((aft Wd Ht x1 y1 t1 f1 x2 y2 t2 f2).2.2.1), .bool ((aft Wd Ht x1 y1 t1 f1 x2 y2 t2 f2).2.2.2)]) [⟨w.heap.size, 31, [.int .i64 x1, .int .i64 y1, .int .i64 t1, .bool f1]⟩, ⟨w.heap.size + 1, 31, [.int .i64 x2, .int .i64 y2, .int .i64 t2, .bool f2]⟩, ⟨w.heap.size + 1 + 1, 31, [.int .i64 ((aft Wd Ht x1 y1 t1 f1 x2 y2 t2 f2).1), .int .i64 ((aft Wd Ht x1 y1 t1 f1 x2 y2 t2 f2).2.1), .int .i64 ((aft Wd Ht x1 y1 t1 f1 x2 y2 t2 f2).2.2.1), .bool ((aft Wd Ht x1 y1 t1 f1 x2 y2 t2 f2).2.2.2)]⟩, ⟨g10, 84, [.int .i64 Wd, .int .i64 Ht]⟩] := HE.out.putF 2 rfl rfl
        have HB' := putL_below (show w.heap.size ≤ w.heap.size + 1 + 1 from by omega) [.int .i64 ((aft Wd Ht x1 y1 t1 f1 x2 y2 t2 f2).1), .int .i64 ((aft Wd Ht x1 y1 t1 f1 x2 y2 t2 f2).2.1), .int .i64 ((aft Wd Ht x1 y1 t1 f1 x2 y2 t2 f2).2.2.1), .bool ((aft Wd Ht x1 y1 t1 f1 x2 y2 t2 f2).2.2.2)] _ 0 HB.out
        generalize putL X4 (w.heap.size + 1 + 1) 0 [.int .i64 ((aft Wd Ht x1 y1 t1 f1 x2 y2 t2 f2).1), .int .i64 ((aft Wd Ht x1 y1 t1 f1 x2 y2 t2 f2).2.1), .int .i64 ((aft Wd Ht x1 y1 t1 f1 x2 y2 t2 f2).2.2.1), .bool ((aft Wd Ht x1 y1 t1 f1 x2 y2 t2 f2).2.2.2)] = X5 at *
        replace HE := Hd.mk HE'
        replace HB := Hd.mk HB'
        clear HE' HB'
        go_wp2_with fail
        have k0a := HE.out.cell 2 0 rfl rfl
        have k0b := HE.out.cell 2 1 rfl rfl
        have k0c := HE.out.cell 2 2 rfl rfl
        have k0d := HE.out.cell 2 3 rfl rfl
        refine bodyPost_ret (v := .tuple #[.agg #[.int .i64 ((aft Wd Ht x1 y1 t1 f1 x2 y2 t2 f2).1), .int .i64 ((aft Wd Ht x1 y1 t1 f1 x2 y2 t2 f2).2.1), .int .i64 ((aft Wd Ht x1 y1 t1 f1 x2 y2 t2 f2).2.2.1), .bool ((aft Wd Ht x1 y1 t1 f1 x2 y2 t2 f2).2.2.2)], .int .i64 0]) (by simp [results, Try.results23, go_sem, k0a, k0b, k0c, k0d]) rfl ?_
        exact ⟨_, rfl, HB.out, _, _, rfl, rfl, rfl⟩
set_option maxRecDepth 100000 in
set_option maxHeartbeats 1000000 in
theorem After_no (Wd Ht x1 y1 t1 x2 y2 t2 : Int) (f1 f2 : Bool) (hn : (sizeB Wd Ht && alB Wd Ht x1 y1 t1 && alB Wd Ht x2 y2 t2) = false) (w : World) :
    Calls Try.prog 23 #[.int .i64 Wd, .int .i64 Ht, .agg #[.int .i64 x1, .int .i64 y1, .int .i64 t1, .bool f1], .agg #[.int .i64 x2, .int .i64 y2, .int .i64 t2, .bool f2]] w (Got w (isP (isV (.agg #[.int .i64 0, .int .i64 0, .int .i64 0, .bool false])) (isV (.int .i64 2))).p) := by
  by_cases hs : sizeB Wd Ht = true
  · have HS := Hd.mk hs
    by_cases h1 : alB Wd Ht x1 y1 t1 = true
    · have h2 : alB Wd Ht x2 y2 t2 = false := by rw [hs, h1] at hn; simpa using hn
      have H1 := Hd.mk h1
      have H2 := Hd.mk h2
      clear hs h1 h2 hn
      go_enter Try.func23, Try.ntmps23
      go_upto_region 1 with fail
      obtain ⟨W0, hW0⟩ : ∃ W : World, W = ((w.alloc (.cells #[.int .i64 x1, .int .i64 y1, .int .i64 t1, .bool f1] 31)).alloc (.cells #[.int .i64 x2, .int .i64 y2, .int .i64 t2, .bool f2] 31)).alloc (.cells #[.int .i64 0, .int .i64 0, .int .i64 0, .bool false] 31) := ⟨_, rfl⟩
      rw [← hW0]
      obtain ⟨he, hb⟩ := env_three hW0
      have HE := Hd.mk he
      have HB := Hd.mk hb
      clear he hb hW0
      refine wp_region_vd 4 [11, 12, 13, 10] [0, 1, 2] [3] 84 [.int .i64 0, .int .i64 0] [isV (.int .i64 Wd), isV (.int .i64 Ht), isV (.agg #[.int .i64 Wd, .int .i64 Ht]), SP.any] (by rfl) alloc_Z ?_ ?_
      · intro qi qh qA aa wx hb hs hd
        match qi, qh, qA with
        | 0, _, _ => exact .inl ⟨rfl, op_mv rfl (hs 0 rfl)⟩
        | 1, _, _ => exact .inl ⟨rfl, op_mv rfl (hs 1 rfl)⟩
        | 2, _, _ => exact .inl ⟨rfl, ⟨_, op_buZ rfl (hd 0 rfl) (hd 1 rfl), rfl⟩⟩
        | 3, _, h => cases h
        | qi + 4, h, _ => omega
      · intro vs X1 hb hv hal hne
        have HL0 := Hd.mk (HE.out.lt)
        have HBW := HB
        replace HB := Hd.mk (bel_then HB.out hb)
        replace HE : Hd (Env X1 [⟨w.heap.size, 31, [.int .i64 x1, .int .i64 y1, .int .i64 t1, .bool f1]⟩, ⟨w.heap.size + 1, 31, [.int .i64 x2, .int .i64 y2, .int .i64 t2, .bool f2]⟩, ⟨w.heap.size + 1 + 1, 31, [.int .i64 0, .int .i64 0, .int .i64 0, .bool false]⟩]) := ⟨HE.out.to hb⟩
        have HLS := HL0
        have e13 : vs 13 = .agg #[.int .i64 Wd, .int .i64 Ht] := hv 2 (by decide) rfl
        obtain ⟨g10, e10, l10, b10⟩ : ∃ g, vs 10 = .pointer (some ⟨g, 0, none⟩) ∧ _ := hal 3 rfl
        replace HE : Hd (Env X1 [⟨w.heap.size, 31, [.int .i64 x1, .int .i64 y1, .int .i64 t1, .bool f1]⟩, ⟨w.heap.size + 1, 31, [.int .i64 x2, .int .i64 y2, .int .i64 t2, .bool f2]⟩, ⟨w.heap.size + 1 + 1, 31, [.int .i64 0, .int .i64 0, .int .i64 0, .bool false]⟩, ⟨g10, 84, [.int .i64 0, .int .i64 0]⟩]) := ⟨Env.addne (e := ⟨g10, 84, [.int .i64 0, .int .i64 0]⟩) HE.out b10 (fun e' he => Nat.ne_of_lt (Nat.lt_of_lt_of_le (HL0.out e' he) l10))⟩
        have G10 : Hd (w.heap.size ≤ g10) := ⟨Nat.le_trans HBW.out.size l10⟩
        simp only [putAll, List.foldl_cons, List.foldl_nil, Act.put, List.setIfInBounds_toArray, List.set_cons_succ, List.set_cons_zero, List.drop_succ_cons, List.drop_zero, e13, e10]
        generalize vs 11 = s11
        generalize vs 12 = s12
        clear hv hal hne hb HL0 HBW HLS e13 e10 l10 b10
        refine wpList_st rfl rfl rfl rfl rfl (sto_Z (HE.out.get 3 rfl)) ?_
        have HE' : Env (putL X1 g10 0 [.int .i64 Wd, .int .i64 Ht]) [⟨w.heap.size, 31, [.int .i64 x1, .int .i64 y1, .int .i64 t1, .bool f1]⟩, ⟨w.heap.size + 1, 31, [.int .i64 x2, .int .i64 y2, .int .i64 t2, .bool f2]⟩, ⟨w.heap.size + 1 + 1, 31, [.int .i64 0, .int .i64 0, .int .i64 0, .bool false]⟩, ⟨g10, 84, [.int .i64 Wd, .int .i64 Ht]⟩] := HE.out.putF 3 rfl rfl
        have HB' := putL_below (show w.heap.size ≤ g10 from G10.out) [.int .i64 Wd, .int .i64 Ht] _ 0 HB.out
        generalize putL X1 g10 0 [.int .i64 Wd, .int .i64 Ht] = X2 at *
        replace HE := Hd.mk HE'
        replace HB := Hd.mk HB'
        clear HE' HB'
        go_upto_region 2 with fail
        refine wp_region_vd 15 [14, 15, 16, 17, 18, 19, 20, 21, 22, 23, 24, 25, 26, 27, 28] [2, 3, 7, 8, 9, 13, 14] [] 84 [.int .i64 0, .int .i64 0] [isV (.agg #[.int .i64 Wd, .int .i64 Ht]), isV (.bool true), isV (.bool false), isV (.bool false), isV (.agg #[.int .i64 Wd, .int .i64 Ht]), isV (.agg #[.int .i64 x1, .int .i64 y1, .int .i64 t1, .bool f1]), isV (.bool true), isV (.bool false), isV (.bool false), isV (.bool false), isV (.agg #[.int .i64 Wd, .int .i64 Ht]), isV (.agg #[.int .i64 x2, .int .i64 y2, .int .i64 t2, .bool f2]), isV (.bool false), isV (.bool true), isV (.bool true)] (by rfl) alloc_Z ?_ ?_
        · intro qi qh qA aa wx hb hs hd
          match qi, qh, qA with
          | 0, _, _ => exact .inl ⟨rfl, op_ldZ rfl rfl (hs 10 rfl) ((HE.out.to hb).get 3 rfl)⟩
          | 1, _, _ => exact .inl ⟨rfl, wp_b (bool_eq HS.out) (op_call1 rfl rfl Try.call53 (by rw [(show aa.eval (.tmp 14) = .agg #[.int .i64 Wd, .int .i64 Ht] from (hd 0 rfl))]; exact valid_got Wd Ht _))⟩
          | 2, _, _ => exact .inl ⟨rfl, ⟨_, op_not rfl (hd 1 rfl), rfl⟩⟩
          | 3, _, _ => exact .inl ⟨rfl, op_mv rfl (hd 2 rfl)⟩
          | 4, _, _ => exact .inl ⟨⟨rfl, .inl (hd 3 rfl)⟩, op_ldZ rfl rfl (hs 10 rfl) ((HE.out.to hb).get 3 rfl)⟩
          | 5, _, _ => exact .inl ⟨⟨rfl, .inl (hd 3 rfl)⟩, op_ldM rfl rfl (hs 6 rfl) ((HE.out.to hb).get 0 rfl)⟩
          | 6, _, _ => exact .inl ⟨⟨rfl, .inl (hd 3 rfl)⟩, wp_b (bool_eq H1.out) (op_call2 rfl rfl Try.call51 (by rw [(show aa.eval (.tmp 18) = .agg #[.int .i64 Wd, .int .i64 Ht] from (hd 4 rfl)), (show aa.eval (.tmp 19) = .agg #[.int .i64 x1, .int .i64 y1, .int .i64 t1, .bool f1] from (hd 5 rfl))]; exact allows_got Wd Ht x1 y1 t1 f1 _))⟩
          | 7, _, _ => exact .inl ⟨⟨rfl, .inl (hd 3 rfl)⟩, ⟨_, op_not rfl (hd 6 rfl), rfl⟩⟩
          | 8, _, _ => exact .inl ⟨rfl, ⟨_, op_pickF rfl (hd 3 rfl) (hd 7 rfl), rfl⟩⟩
          | 9, _, _ => exact .inl ⟨rfl, op_mv rfl (hd 8 rfl)⟩
          | 10, _, _ => exact .inl ⟨⟨rfl, .inl (hd 9 rfl)⟩, op_ldZ rfl rfl (hs 10 rfl) ((HE.out.to hb).get 3 rfl)⟩
          | 11, _, _ => exact .inl ⟨⟨rfl, .inl (hd 9 rfl)⟩, op_ldM rfl rfl (hs 7 rfl) ((HE.out.to hb).get 1 rfl)⟩
          | 12, _, _ => exact .inl ⟨⟨rfl, .inl (hd 9 rfl)⟩, wp_b (bool_eq H2.out) (op_call2 rfl rfl Try.call51 (by rw [(show aa.eval (.tmp 24) = .agg #[.int .i64 Wd, .int .i64 Ht] from (hd 10 rfl)), (show aa.eval (.tmp 25) = .agg #[.int .i64 x2, .int .i64 y2, .int .i64 t2, .bool f2] from (hd 11 rfl))]; exact allows_got Wd Ht x2 y2 t2 f2 _))⟩
          | 13, _, _ => exact .inl ⟨⟨rfl, .inl (hd 9 rfl)⟩, ⟨_, op_not rfl (hd 12 rfl), rfl⟩⟩
          | 14, _, _ => exact .inl ⟨rfl, ⟨_, op_pickF rfl (hd 9 rfl) (hd 13 rfl), rfl⟩⟩
          | qi + 15, h, _ => omega
        · intro vs X3 hb hv hal hne
          have HL0 := Hd.mk (HE.out.lt)
          have HBW := HB
          replace HB := Hd.mk (bel_then HB.out hb)
          replace HE : Hd (Env X3 [⟨w.heap.size, 31, [.int .i64 x1, .int .i64 y1, .int .i64 t1, .bool f1]⟩, ⟨w.heap.size + 1, 31, [.int .i64 x2, .int .i64 y2, .int .i64 t2, .bool f2]⟩, ⟨w.heap.size + 1 + 1, 31, [.int .i64 0, .int .i64 0, .int .i64 0, .bool false]⟩, ⟨g10, 84, [.int .i64 Wd, .int .i64 Ht]⟩]) := ⟨HE.out.to hb⟩
          have HLS := HL0
          have e28 : vs 28 = .bool true := hv 14 (by decide) rfl
          simp only [putAll, List.foldl_cons, List.foldl_nil, Act.put, List.setIfInBounds_toArray, List.set_cons_succ, List.set_cons_zero, List.drop_succ_cons, List.drop_zero, e28]
          generalize vs 14 = s14
          generalize vs 15 = s15
          generalize vs 16 = s16
          generalize vs 17 = s17
          generalize vs 18 = s18
          generalize vs 19 = s19
          generalize vs 20 = s20
          generalize vs 21 = s21
          generalize vs 22 = s22
          generalize vs 23 = s23
          generalize vs 24 = s24
          generalize vs 25 = s25
          generalize vs 26 = s26
          generalize vs 27 = s27
          clear hv hal hne hb HL0 HBW HLS e28
          go_upto_region 3 with fail
          refine wp_region_vd 1 [29] [0] [] 84 [.int .i64 0, .int .i64 0] [isV (.agg #[.int .i64 0, .int .i64 0, .int .i64 0, .bool false])] (by rfl) alloc_Z ?_ ?_
          · intro qi qh qA aa wx hb hs hd
            match qi, qh, qA with
            | 0, _, _ => exact .inl ⟨rfl, ⟨_, op_b0M rfl, rfl⟩⟩
            | qi + 1, h, _ => omega
          · intro vs X4 hb hv hal hne
            have HL0 := Hd.mk (HE.out.lt)
            have HBW := HB
            replace HB := Hd.mk (bel_then HB.out hb)
            replace HE : Hd (Env X4 [⟨w.heap.size, 31, [.int .i64 x1, .int .i64 y1, .int .i64 t1, .bool f1]⟩, ⟨w.heap.size + 1, 31, [.int .i64 x2, .int .i64 y2, .int .i64 t2, .bool f2]⟩, ⟨w.heap.size + 1 + 1, 31, [.int .i64 0, .int .i64 0, .int .i64 0, .bool false]⟩, ⟨g10, 84, [.int .i64 Wd, .int .i64 Ht]⟩]) := ⟨HE.out.to hb⟩
            have HLS := HL0
            have e29 : vs 29 = .agg #[.int .i64 0, .int .i64 0, .int .i64 0, .bool false] := hv 0 (by decide) rfl
            simp only [putAll, List.foldl_cons, List.foldl_nil, Act.put, List.setIfInBounds_toArray, List.set_cons_succ, List.set_cons_zero, List.drop_succ_cons, List.drop_zero, e29]
            clear hv hal hne hb HL0 HBW HLS e29
            refine wpList_st rfl rfl rfl rfl rfl (sto_M (HE.out.get 2 rfl)) ?_
            have HE' : Env (putL X4 (w.heap.size + 1 + 1) 0 [.int .i64 0, .int .i64 0, .int .i64 0, .bool false]) [⟨w.heap.size, 31, [.int .i64 x1, .int .i64 y1, .int .i64 t1, .bool f1]⟩, ⟨w.heap.size + 1, 31, [.int .i64 x2, .int .i64 y2, .int .i64 t2, .bool f2]⟩, ⟨w.heap.size + 1 + 1, 31, [.int .i64 0, .int .i64 0, .int .i64 0, .bool false]⟩, ⟨g10, 84, [.int .i64 Wd, .int .i64 Ht]⟩] := HE.out.putF 2 rfl rfl
            have HB' := putL_below (show w.heap.size ≤ w.heap.size + 1 + 1 from by omega) [.int .i64 0, .int .i64 0, .int .i64 0, .bool false] _ 0 HB.out
            generalize putL X4 (w.heap.size + 1 + 1) 0 [.int .i64 0, .int .i64 0, .int .i64 0, .bool false] = X5 at *
            replace HE := Hd.mk HE'
            replace HB := Hd.mk HB'
            clear HE' HB'
            go_wp2_with fail
            have k0a := HE.out.cell 2 0 rfl rfl
            have k0b := HE.out.cell 2 1 rfl rfl
            have k0c := HE.out.cell 2 2 rfl rfl
            have k0d := HE.out.cell 2 3 rfl rfl
            refine bodyPost_ret (v := .tuple #[.agg #[.int .i64 0, .int .i64 0, .int .i64 0, .bool false], .int .i64 2]) (by simp [results, Try.results23, go_sem, k0a, k0b, k0c, k0d]) rfl ?_
            exact ⟨_, rfl, HB.out, _, _, rfl, rfl, rfl⟩
    · have h1' : alB Wd Ht x1 y1 t1 = false := by simpa using h1
      have H1 := Hd.mk h1'
      clear hs h1 h1' hn
      go_enter Try.func23, Try.ntmps23
      go_upto_region 1 with fail
      obtain ⟨W0, hW0⟩ : ∃ W : World, W = ((w.alloc (.cells #[.int .i64 x1, .int .i64 y1, .int .i64 t1, .bool f1] 31)).alloc (.cells #[.int .i64 x2, .int .i64 y2, .int .i64 t2, .bool f2] 31)).alloc (.cells #[.int .i64 0, .int .i64 0, .int .i64 0, .bool false] 31) := ⟨_, rfl⟩
      rw [← hW0]
      obtain ⟨he, hb⟩ := env_three hW0
      have HE := Hd.mk he
      have HB := Hd.mk hb
      clear he hb hW0
      refine wp_region_vd 4 [11, 12, 13, 10] [0, 1, 2] [3] 84 [.int .i64 0, .int .i64 0] [isV (.int .i64 Wd), isV (.int .i64 Ht), isV (.agg #[.int .i64 Wd, .int .i64 Ht]), SP.any] (by rfl) alloc_Z ?_ ?_
      · intro qi qh qA aa wx hb hs hd
        match qi, qh, qA with
        | 0, _, _ => exact .inl ⟨rfl, op_mv rfl (hs 0 rfl)⟩
        | 1, _, _ => exact .inl ⟨rfl, op_mv rfl (hs 1 rfl)⟩
        | 2, _, _ => exact .inl ⟨rfl, ⟨_, op_buZ rfl (hd 0 rfl) (hd 1 rfl), rfl⟩⟩
        | 3, _, h => cases h
        | qi + 4, h, _ => omega
      · intro vs X1 hb hv hal hne
        have HL0 := Hd.mk (HE.out.lt)
        have HBW := HB
        replace HB := Hd.mk (bel_then HB.out hb)
        replace HE : Hd (Env X1 [⟨w.heap.size, 31, [.int .i64 x1, .int .i64 y1, .int .i64 t1, .bool f1]⟩, ⟨w.heap.size + 1, 31, [.int .i64 x2, .int .i64 y2, .int .i64 t2, .bool f2]⟩, ⟨w.heap.size + 1 + 1, 31, [.int .i64 0, .int .i64 0, .int .i64 0, .bool false]⟩]) := ⟨HE.out.to hb⟩
        have HLS := HL0
        have e13 : vs 13 = .agg #[.int .i64 Wd, .int .i64 Ht] := hv 2 (by decide) rfl
        obtain ⟨g10, e10, l10, b10⟩ : ∃ g, vs 10 = .pointer (some ⟨g, 0, none⟩) ∧ _ := hal 3 rfl
        replace HE : Hd (Env X1 [⟨w.heap.size, 31, [.int .i64 x1, .int .i64 y1, .int .i64 t1, .bool f1]⟩, ⟨w.heap.size + 1, 31, [.int .i64 x2, .int .i64 y2, .int .i64 t2, .bool f2]⟩, ⟨w.heap.size + 1 + 1, 31, [.int .i64 0, .int .i64 0, .int .i64 0, .bool false]⟩, ⟨g10, 84, [.int .i64 0, .int .i64 0]⟩]) := ⟨Env.addne (e := ⟨g10, 84, [.int .i64 0, .int .i64 0]⟩) HE.out b10 (fun e' he => Nat.ne_of_lt (Nat.lt_of_lt_of_le (HL0.out e' he) l10))⟩
        have G10 : Hd (w.heap.size ≤ g10) := ⟨Nat.le_trans HBW.out.size l10⟩
        simp only [putAll, List.foldl_cons, List.foldl_nil, Act.put, List.setIfInBounds_toArray, List.set_cons_succ, List.set_cons_zero, List.drop_succ_cons, List.drop_zero, e13, e10]
        generalize vs 11 = s11
        generalize vs 12 = s12
        clear hv hal hne hb HL0 HBW HLS e13 e10 l10 b10
        refine wpList_st rfl rfl rfl rfl rfl (sto_Z (HE.out.get 3 rfl)) ?_
        have HE' : Env (putL X1 g10 0 [.int .i64 Wd, .int .i64 Ht]) [⟨w.heap.size, 31, [.int .i64 x1, .int .i64 y1, .int .i64 t1, .bool f1]⟩, ⟨w.heap.size + 1, 31, [.int .i64 x2, .int .i64 y2, .int .i64 t2, .bool f2]⟩, ⟨w.heap.size + 1 + 1, 31, [.int .i64 0, .int .i64 0, .int .i64 0, .bool false]⟩, ⟨g10, 84, [.int .i64 Wd, .int .i64 Ht]⟩] := HE.out.putF 3 rfl rfl
        have HB' := putL_below (show w.heap.size ≤ g10 from G10.out) [.int .i64 Wd, .int .i64 Ht] _ 0 HB.out
        generalize putL X1 g10 0 [.int .i64 Wd, .int .i64 Ht] = X2 at *
        replace HE := Hd.mk HE'
        replace HB := Hd.mk HB'
        clear HE' HB'
        go_upto_region 2 with fail
        refine wp_region_vd 15 [14, 15, 16, 17, 18, 19, 20, 21, 22, 23, 24, 25, 26, 27, 28] [2, 3, 7, 8, 9, 14] [] 84 [.int .i64 0, .int .i64 0] [isV (.agg #[.int .i64 Wd, .int .i64 Ht]), isV (.bool true), isV (.bool false), isV (.bool false), isV (.agg #[.int .i64 Wd, .int .i64 Ht]), isV (.agg #[.int .i64 x1, .int .i64 y1, .int .i64 t1, .bool f1]), isV (.bool false), isV (.bool true), isV (.bool true), isV (.bool true), isV undef, isV undef, isV undef, isV undef, isV (.bool true)] (by rfl) alloc_Z ?_ ?_
        · intro qi qh qA aa wx hb hs hd
          match qi, qh, qA with
          | 0, _, _ => exact .inl ⟨rfl, op_ldZ rfl rfl (hs 10 rfl) ((HE.out.to hb).get 3 rfl)⟩
          | 1, _, _ => exact .inl ⟨rfl, wp_b (bool_eq HS.out) (op_call1 rfl rfl Try.call53 (by rw [(show aa.eval (.tmp 14) = .agg #[.int .i64 Wd, .int .i64 Ht] from (hd 0 rfl))]; exact valid_got Wd Ht _))⟩
          | 2, _, _ => exact .inl ⟨rfl, ⟨_, op_not rfl (hd 1 rfl), rfl⟩⟩
          | 3, _, _ => exact .inl ⟨rfl, op_mv rfl (hd 2 rfl)⟩
          | 4, _, _ => exact .inl ⟨⟨rfl, .inl (hd 3 rfl)⟩, op_ldZ rfl rfl (hs 10 rfl) ((HE.out.to hb).get 3 rfl)⟩
          | 5, _, _ => exact .inl ⟨⟨rfl, .inl (hd 3 rfl)⟩, op_ldM rfl rfl (hs 6 rfl) ((HE.out.to hb).get 0 rfl)⟩
          | 6, _, _ => exact .inl ⟨⟨rfl, .inl (hd 3 rfl)⟩, wp_b (bool_eq H1.out) (op_call2 rfl rfl Try.call51 (by rw [(show aa.eval (.tmp 18) = .agg #[.int .i64 Wd, .int .i64 Ht] from (hd 4 rfl)), (show aa.eval (.tmp 19) = .agg #[.int .i64 x1, .int .i64 y1, .int .i64 t1, .bool f1] from (hd 5 rfl))]; exact allows_got Wd Ht x1 y1 t1 f1 _))⟩
          | 7, _, _ => exact .inl ⟨⟨rfl, .inl (hd 3 rfl)⟩, ⟨_, op_not rfl (hd 6 rfl), rfl⟩⟩
          | 8, _, _ => exact .inl ⟨rfl, ⟨_, op_pickF rfl (hd 3 rfl) (hd 7 rfl), rfl⟩⟩
          | 9, _, _ => exact .inl ⟨rfl, op_mv rfl (hd 8 rfl)⟩
          | 10, _, _ => exact .inr ⟨⟨rfl, .inl (hd 9 rfl)⟩, rfl⟩
          | 11, _, _ => exact .inr ⟨⟨rfl, .inl (hd 9 rfl)⟩, rfl⟩
          | 12, _, _ => exact .inr ⟨⟨rfl, .inl (hd 9 rfl)⟩, rfl⟩
          | 13, _, _ => exact .inr ⟨⟨rfl, .inl (hd 9 rfl)⟩, rfl⟩
          | 14, _, _ => exact .inl ⟨rfl, ⟨_, op_pickT rfl (hd 9 rfl) rfl, rfl⟩⟩
          | qi + 15, h, _ => omega
        · intro vs X3 hb hv hal hne
          have HL0 := Hd.mk (HE.out.lt)
          have HBW := HB
          replace HB := Hd.mk (bel_then HB.out hb)
          replace HE : Hd (Env X3 [⟨w.heap.size, 31, [.int .i64 x1, .int .i64 y1, .int .i64 t1, .bool f1]⟩, ⟨w.heap.size + 1, 31, [.int .i64 x2, .int .i64 y2, .int .i64 t2, .bool f2]⟩, ⟨w.heap.size + 1 + 1, 31, [.int .i64 0, .int .i64 0, .int .i64 0, .bool false]⟩, ⟨g10, 84, [.int .i64 Wd, .int .i64 Ht]⟩]) := ⟨HE.out.to hb⟩
          have HLS := HL0
          have e28 : vs 28 = .bool true := hv 14 (by decide) rfl
          simp only [putAll, List.foldl_cons, List.foldl_nil, Act.put, List.setIfInBounds_toArray, List.set_cons_succ, List.set_cons_zero, List.drop_succ_cons, List.drop_zero, e28]
          generalize vs 14 = s14
          generalize vs 15 = s15
          generalize vs 16 = s16
          generalize vs 17 = s17
          generalize vs 18 = s18
          generalize vs 19 = s19
          generalize vs 20 = s20
          generalize vs 21 = s21
          generalize vs 22 = s22
          generalize vs 23 = s23
          generalize vs 24 = s24
          generalize vs 25 = s25
          generalize vs 26 = s26
          generalize vs 27 = s27
          clear hv hal hne hb HL0 HBW HLS e28
          go_upto_region 3 with fail
          refine wp_region_vd 1 [29] [0] [] 84 [.int .i64 0, .int .i64 0] [isV (.agg #[.int .i64 0, .int .i64 0, .int .i64 0, .bool false])] (by rfl) alloc_Z ?_ ?_
          · intro qi qh qA aa wx hb hs hd
            match qi, qh, qA with
            | 0, _, _ => exact .inl ⟨rfl, ⟨_, op_b0M rfl, rfl⟩⟩
            | qi + 1, h, _ => omega
          · intro vs X4 hb hv hal hne
            have HL0 := Hd.mk (HE.out.lt)
            have HBW := HB
            replace HB := Hd.mk (bel_then HB.out hb)
            replace HE : Hd (Env X4 [⟨w.heap.size, 31, [.int .i64 x1, .int .i64 y1, .int .i64 t1, .bool f1]⟩, ⟨w.heap.size + 1, 31, [.int .i64 x2, .int .i64 y2, .int .i64 t2, .bool f2]⟩, ⟨w.heap.size + 1 + 1, 31, [.int .i64 0, .int .i64 0, .int .i64 0, .bool false]⟩, ⟨g10, 84, [.int .i64 Wd, .int .i64 Ht]⟩]) := ⟨HE.out.to hb⟩
            have HLS := HL0
            have e29 : vs 29 = .agg #[.int .i64 0, .int .i64 0, .int .i64 0, .bool false] := hv 0 (by decide) rfl
            simp only [putAll, List.foldl_cons, List.foldl_nil, Act.put, List.setIfInBounds_toArray, List.set_cons_succ, List.set_cons_zero, List.drop_succ_cons, List.drop_zero, e29]
            clear hv hal hne hb HL0 HBW HLS e29
            refine wpList_st rfl rfl rfl rfl rfl (sto_M (HE.out.get 2 rfl)) ?_
            have HE' : Env (putL X4 (w.heap.size + 1 + 1) 0 [.int .i64 0, .int .i64 0, .int .i64 0, .bool false]) [⟨w.heap.size, 31, [.int .i64 x1, .int .i64 y1, .int .i64 t1, .bool f1]⟩, ⟨w.heap.size + 1, 31, [.int .i64 x2, .int .i64 y2, .int .i64 t2, .bool f2]⟩, ⟨w.heap.size + 1 + 1, 31, [.int .i64 0, .int .i64 0, .int .i64 0, .bool false]⟩, ⟨g10, 84, [.int .i64 Wd, .int .i64 Ht]⟩] := HE.out.putF 2 rfl rfl
            have HB' := putL_below (show w.heap.size ≤ w.heap.size + 1 + 1 from by omega) [.int .i64 0, .int .i64 0, .int .i64 0, .bool false] _ 0 HB.out
            generalize putL X4 (w.heap.size + 1 + 1) 0 [.int .i64 0, .int .i64 0, .int .i64 0, .bool false] = X5 at *
            replace HE := Hd.mk HE'
            replace HB := Hd.mk HB'
            clear HE' HB'
            go_wp2_with fail
            have k0a := HE.out.cell 2 0 rfl rfl
            have k0b := HE.out.cell 2 1 rfl rfl
            have k0c := HE.out.cell 2 2 rfl rfl
            have k0d := HE.out.cell 2 3 rfl rfl
            refine bodyPost_ret (v := .tuple #[.agg #[.int .i64 0, .int .i64 0, .int .i64 0, .bool false], .int .i64 2]) (by simp [results, Try.results23, go_sem, k0a, k0b, k0c, k0d]) rfl ?_
            exact ⟨_, rfl, HB.out, _, _, rfl, rfl, rfl⟩
  · have hs' : sizeB Wd Ht = false := by simpa using hs
    have HS := Hd.mk hs'
    clear hs hs' hn
    go_enter Try.func23, Try.ntmps23
    go_upto_region 1 with fail
    obtain ⟨W0, hW0⟩ : ∃ W : World, W = ((w.alloc (.cells #[.int .i64 x1, .int .i64 y1, .int .i64 t1, .bool f1] 31)).alloc (.cells #[.int .i64 x2, .int .i64 y2, .int .i64 t2, .bool f2] 31)).alloc (.cells #[.int .i64 0, .int .i64 0, .int .i64 0, .bool false] 31) := ⟨_, rfl⟩
    rw [← hW0]
    obtain ⟨he, hb⟩ := env_three hW0
    have HE := Hd.mk he
    have HB := Hd.mk hb
    clear he hb hW0
    refine wp_region_vd 4 [11, 12, 13, 10] [0, 1, 2] [3] 84 [.int .i64 0, .int .i64 0] [isV (.int .i64 Wd), isV (.int .i64 Ht), isV (.agg #[.int .i64 Wd, .int .i64 Ht]), SP.any] (by rfl) alloc_Z ?_ ?_
    · intro qi qh qA aa wx hb hs hd
      match qi, qh, qA with
      | 0, _, _ => exact .inl ⟨rfl, op_mv rfl (hs 0 rfl)⟩
      | 1, _, _ => exact .inl ⟨rfl, op_mv rfl (hs 1 rfl)⟩
      | 2, _, _ => exact .inl ⟨rfl, ⟨_, op_buZ rfl (hd 0 rfl) (hd 1 rfl), rfl⟩⟩
      | 3, _, h => cases h
      | qi + 4, h, _ => omega
    · intro vs X1 hb hv hal hne
      have HL0 := Hd.mk (HE.out.lt)
      have HBW := HB
      replace HB := Hd.mk (bel_then HB.out hb)
      replace HE : Hd (Env X1 [⟨w.heap.size, 31, [.int .i64 x1, .int .i64 y1, .int .i64 t1, .bool f1]⟩, ⟨w.heap.size + 1, 31, [.int .i64 x2, .int .i64 y2, .int .i64 t2, .bool f2]⟩, ⟨w.heap.size + 1 + 1, 31, [.int .i64 0, .int .i64 0, .int .i64 0, .bool false]⟩]) := ⟨HE.out.to hb⟩
      have HLS := HL0
      have e13 : vs 13 = .agg #[.int .i64 Wd, .int .i64 Ht] := hv 2 (by decide) rfl
      obtain ⟨g10, e10, l10, b10⟩ : ∃ g, vs 10 = .pointer (some ⟨g, 0, none⟩) ∧ _ := hal 3 rfl
      replace HE : Hd (Env X1 [⟨w.heap.size, 31, [.int .i64 x1, .int .i64 y1, .int .i64 t1, .bool f1]⟩, ⟨w.heap.size + 1, 31, [.int .i64 x2, .int .i64 y2, .int .i64 t2, .bool f2]⟩, ⟨w.heap.size + 1 + 1, 31, [.int .i64 0, .int .i64 0, .int .i64 0, .bool false]⟩, ⟨g10, 84, [.int .i64 0, .int .i64 0]⟩]) := ⟨Env.addne (e := ⟨g10, 84, [.int .i64 0, .int .i64 0]⟩) HE.out b10 (fun e' he => Nat.ne_of_lt (Nat.lt_of_lt_of_le (HL0.out e' he) l10))⟩
      have G10 : Hd (w.heap.size ≤ g10) := ⟨Nat.le_trans HBW.out.size l10⟩
      simp only [putAll, List.foldl_cons, List.foldl_nil, Act.put, List.setIfInBounds_toArray, List.set_cons_succ, List.set_cons_zero, List.drop_succ_cons, List.drop_zero, e13, e10]
      generalize vs 11 = s11
      generalize vs 12 = s12
      clear hv hal hne hb HL0 HBW HLS e13 e10 l10 b10
      refine wpList_st rfl rfl rfl rfl rfl (sto_Z (HE.out.get 3 rfl)) ?_
      have HE' : Env (putL X1 g10 0 [.int .i64 Wd, .int .i64 Ht]) [⟨w.heap.size, 31, [.int .i64 x1, .int .i64 y1, .int .i64 t1, .bool f1]⟩, ⟨w.heap.size + 1, 31, [.int .i64 x2, .int .i64 y2, .int .i64 t2, .bool f2]⟩, ⟨w.heap.size + 1 + 1, 31, [.int .i64 0, .int .i64 0, .int .i64 0, .bool false]⟩, ⟨g10, 84, [.int .i64 Wd, .int .i64 Ht]⟩] := HE.out.putF 3 rfl rfl
      have HB' := putL_below (show w.heap.size ≤ g10 from G10.out) [.int .i64 Wd, .int .i64 Ht] _ 0 HB.out
      generalize putL X1 g10 0 [.int .i64 Wd, .int .i64 Ht] = X2 at *
      replace HE := Hd.mk HE'
      replace HB := Hd.mk HB'
      clear HE' HB'
      go_upto_region 2 with fail
      refine wp_region_vd 15 [14, 15, 16, 17, 18, 19, 20, 21, 22, 23, 24, 25, 26, 27, 28] [2, 3, 8, 9, 14] [] 84 [.int .i64 0, .int .i64 0] [isV (.agg #[.int .i64 Wd, .int .i64 Ht]), isV (.bool false), isV (.bool true), isV (.bool true), isV undef, isV undef, isV undef, isV undef, isV (.bool true), isV (.bool true), isV undef, isV undef, isV undef, isV undef, isV (.bool true)] (by rfl) alloc_Z ?_ ?_
      · intro qi qh qA aa wx hb hs hd
        match qi, qh, qA with
        | 0, _, _ => exact .inl ⟨rfl, op_ldZ rfl rfl (hs 10 rfl) ((HE.out.to hb).get 3 rfl)⟩
        | 1, _, _ => exact .inl ⟨rfl, wp_b (bool_eq HS.out) (op_call1 rfl rfl Try.call53 (by rw [(show aa.eval (.tmp 14) = .agg #[.int .i64 Wd, .int .i64 Ht] from (hd 0 rfl))]; exact valid_got Wd Ht _))⟩
        | 2, _, _ => exact .inl ⟨rfl, ⟨_, op_not rfl (hd 1 rfl), rfl⟩⟩
        | 3, _, _ => exact .inl ⟨rfl, op_mv rfl (hd 2 rfl)⟩
        | 4, _, _ => exact .inr ⟨⟨rfl, .inl (hd 3 rfl)⟩, rfl⟩
        | 5, _, _ => exact .inr ⟨⟨rfl, .inl (hd 3 rfl)⟩, rfl⟩
        | 6, _, _ => exact .inr ⟨⟨rfl, .inl (hd 3 rfl)⟩, rfl⟩
        | 7, _, _ => exact .inr ⟨⟨rfl, .inl (hd 3 rfl)⟩, rfl⟩
        | 8, _, _ => exact .inl ⟨rfl, ⟨_, op_pickT rfl (hd 3 rfl) rfl, rfl⟩⟩
        | 9, _, _ => exact .inl ⟨rfl, op_mv rfl (hd 8 rfl)⟩
        | 10, _, _ => exact .inr ⟨⟨rfl, .inl (hd 9 rfl)⟩, rfl⟩
        | 11, _, _ => exact .inr ⟨⟨rfl, .inl (hd 9 rfl)⟩, rfl⟩
        | 12, _, _ => exact .inr ⟨⟨rfl, .inl (hd 9 rfl)⟩, rfl⟩
        | 13, _, _ => exact .inr ⟨⟨rfl, .inl (hd 9 rfl)⟩, rfl⟩
        | 14, _, _ => exact .inl ⟨rfl, ⟨_, op_pickT rfl (hd 9 rfl) rfl, rfl⟩⟩
        | qi + 15, h, _ => omega
      · intro vs X3 hb hv hal hne
        have HL0 := Hd.mk (HE.out.lt)
        have HBW := HB
        replace HB := Hd.mk (bel_then HB.out hb)
        replace HE : Hd (Env X3 [⟨w.heap.size, 31, [.int .i64 x1, .int .i64 y1, .int .i64 t1, .bool f1]⟩, ⟨w.heap.size + 1, 31, [.int .i64 x2, .int .i64 y2, .int .i64 t2, .bool f2]⟩, ⟨w.heap.size + 1 + 1, 31, [.int .i64 0, .int .i64 0, .int .i64 0, .bool false]⟩, ⟨g10, 84, [.int .i64 Wd, .int .i64 Ht]⟩]) := ⟨HE.out.to hb⟩
        have HLS := HL0
        have e28 : vs 28 = .bool true := hv 14 (by decide) rfl
        simp only [putAll, List.foldl_cons, List.foldl_nil, Act.put, List.setIfInBounds_toArray, List.set_cons_succ, List.set_cons_zero, List.drop_succ_cons, List.drop_zero, e28]
        generalize vs 14 = s14
        generalize vs 15 = s15
        generalize vs 16 = s16
        generalize vs 17 = s17
        generalize vs 18 = s18
        generalize vs 19 = s19
        generalize vs 20 = s20
        generalize vs 21 = s21
        generalize vs 22 = s22
        generalize vs 23 = s23
        generalize vs 24 = s24
        generalize vs 25 = s25
        generalize vs 26 = s26
        generalize vs 27 = s27
        clear hv hal hne hb HL0 HBW HLS e28
        go_upto_region 3 with fail
        refine wp_region_vd 1 [29] [0] [] 84 [.int .i64 0, .int .i64 0] [isV (.agg #[.int .i64 0, .int .i64 0, .int .i64 0, .bool false])] (by rfl) alloc_Z ?_ ?_
        · intro qi qh qA aa wx hb hs hd
          match qi, qh, qA with
          | 0, _, _ => exact .inl ⟨rfl, ⟨_, op_b0M rfl, rfl⟩⟩
          | qi + 1, h, _ => omega
        · intro vs X4 hb hv hal hne
          have HL0 := Hd.mk (HE.out.lt)
          have HBW := HB
          replace HB := Hd.mk (bel_then HB.out hb)
          replace HE : Hd (Env X4 [⟨w.heap.size, 31, [.int .i64 x1, .int .i64 y1, .int .i64 t1, .bool f1]⟩, ⟨w.heap.size + 1, 31, [.int .i64 x2, .int .i64 y2, .int .i64 t2, .bool f2]⟩, ⟨w.heap.size + 1 + 1, 31, [.int .i64 0, .int .i64 0, .int .i64 0, .bool false]⟩, ⟨g10, 84, [.int .i64 Wd, .int .i64 Ht]⟩]) := ⟨HE.out.to hb⟩
          have HLS := HL0
          have e29 : vs 29 = .agg #[.int .i64 0, .int .i64 0, .int .i64 0, .bool false] := hv 0 (by decide) rfl
          simp only [putAll, List.foldl_cons, List.foldl_nil, Act.put, List.setIfInBounds_toArray, List.set_cons_succ, List.set_cons_zero, List.drop_succ_cons, List.drop_zero, e29]
          clear hv hal hne hb HL0 HBW HLS e29
          refine wpList_st rfl rfl rfl rfl rfl (sto_M (HE.out.get 2 rfl)) ?_
          have HE' : Env (putL X4 (w.heap.size + 1 + 1) 0 [.int .i64 0, .int .i64 0, .int .i64 0, .bool false]) [⟨w.heap.size, 31, [.int .i64 x1, .int .i64 y1, .int .i64 t1, .bool f1]⟩, ⟨w.heap.size + 1, 31, [.int .i64 x2, .int .i64 y2, .int .i64 t2, .bool f2]⟩, ⟨w.heap.size + 1 + 1, 31, [.int .i64 0, .int .i64 0, .int .i64 0, .bool false]⟩, ⟨g10, 84, [.int .i64 Wd, .int .i64 Ht]⟩] := HE.out.putF 2 rfl rfl
          have HB' := putL_below (show w.heap.size ≤ w.heap.size + 1 + 1 from by omega) [.int .i64 0, .int .i64 0, .int .i64 0, .bool false] _ 0 HB.out
          generalize putL X4 (w.heap.size + 1 + 1) 0 [.int .i64 0, .int .i64 0, .int .i64 0, .bool false] = X5 at *
          replace HE := Hd.mk HE'
          replace HB := Hd.mk HB'
          clear HE' HB'
          go_wp2_with fail
          have k0a := HE.out.cell 2 0 rfl rfl
          have k0b := HE.out.cell 2 1 rfl rfl
          have k0c := HE.out.cell 2 2 rfl rfl
          have k0d := HE.out.cell 2 3 rfl rfl
          refine bodyPost_ret (v := .tuple #[.agg #[.int .i64 0, .int .i64 0, .int .i64 0, .bool false], .int .i64 2]) (by simp [results, Try.results23, go_sem, k0a, k0b, k0c, k0d]) rfl ?_
          exact ⟨_, rfl, HB.out, _, _, rfl, rfl, rfl⟩
set_option maxRecDepth 100000 in
set_option maxHeartbeats 1000000 in
theorem Inverse_true (Wd Ht x y t : Int) (hs : sizeB Wd Ht = true) (h1 : alB Wd Ht x y t = true) (w : World) :
    Calls Try.prog 24 #[.int .i64 Wd, .int .i64 Ht, .agg #[.int .i64 x, .int .i64 y, .int .i64 t, .bool true]] w (Got w (isP (isV (.agg #[.int .i64 ((ivp x y t true).1 % Wd), .int .i64 ((ivp x y t true).2 % Ht), .int .i64 (ivt t true), .bool true])) (isV (.int .i64 0))).p) := by
  obtain ⟨hw, hh, hx, hy, ht⟩ := okm hs h1
  have HS := Hd.mk hs
  have H1 := Hd.mk h1
  clear hs h1
  have HE4 : Hd (Int.tmod (4 - t) 4 = (4 - t) % 4) := ⟨tmod_nonneg (by omega)⟩
  have HTU := Hd.mk (fun (a b : Int) W => turned_got a b (t) true (-x) (-y) (by omega) (by omega) (by omega) W)
  have hb1 := trn_bound true (x := -x) (y := -y) (b := 8) (by omega) (by omega) (t).toNat
  obtain ⟨hb1, hb2⟩ := hb1
  have e0 : ivt t true = t := rfl
  have e1 : ivp x y t true = trn true (-x) (-y) (t).toNat := rfl
  rw [e0, e1]
  obtain ⟨pq, hpq⟩ : ∃ p, p = trn true (-x) (-y) (t).toNat := ⟨_, rfl⟩
  rw [← hpq] at HTU hb1 hb2 ⊢
  clear hpq e0 e1
  go_enter Try.func24, Try.ntmps24
  go_upto_region 1 with fail
  obtain ⟨W0, hW0⟩ : ∃ W : World, W = (w.alloc (.cells #[.int .i64 x, .int .i64 y, .int .i64 t, .bool true] 31)).alloc (.cells #[.int .i64 0, .int .i64 0, .int .i64 0, .bool false] 31) := ⟨_, rfl⟩
  rw [← hW0]
  obtain ⟨he, hb⟩ := env_two hW0
  have HE := Hd.mk he
  have HB := Hd.mk hb
  clear he hb hW0
  refine wp_region_vd 4 [12, 13, 14, 8] [0, 1, 2] [3] 84 [.int .i64 0, .int .i64 0] [isV (.int .i64 Wd), isV (.int .i64 Ht), isV (.agg #[.int .i64 Wd, .int .i64 Ht]), SP.any] (by rfl) alloc_Z ?_ ?_
  · intro qi qh qA aa wx hb hs hd
    match qi, qh, qA with
    | 0, _, _ => exact .inl ⟨rfl, op_mv rfl (hs 0 rfl)⟩
    | 1, _, _ => exact .inl ⟨rfl, op_mv rfl (hs 1 rfl)⟩
    | 2, _, _ => exact .inl ⟨rfl, ⟨_, op_buZ rfl (hd 0 rfl) (hd 1 rfl), rfl⟩⟩
    | 3, _, h => cases h
    | qi + 4, h, _ => omega
  · intro vs X1 hb hv hal hne
    have HL0 := Hd.mk (HE.out.lt)
    have HBW := HB
    replace HB := Hd.mk (bel_then HB.out hb)
    replace HE : Hd (Env X1 [⟨w.heap.size, 31, [.int .i64 x, .int .i64 y, .int .i64 t, .bool true]⟩, ⟨w.heap.size + 1, 31, [.int .i64 0, .int .i64 0, .int .i64 0, .bool false]⟩]) := ⟨HE.out.to hb⟩
    have HLS := HL0
    have e14 : vs 14 = .agg #[.int .i64 Wd, .int .i64 Ht] := hv 2 (by decide) rfl
    obtain ⟨g8, e8, l8, b8⟩ : ∃ g, vs 8 = .pointer (some ⟨g, 0, none⟩) ∧ _ := hal 3 rfl
    replace HE : Hd (Env X1 [⟨w.heap.size, 31, [.int .i64 x, .int .i64 y, .int .i64 t, .bool true]⟩, ⟨w.heap.size + 1, 31, [.int .i64 0, .int .i64 0, .int .i64 0, .bool false]⟩, ⟨g8, 84, [.int .i64 0, .int .i64 0]⟩]) := ⟨Env.addne (e := ⟨g8, 84, [.int .i64 0, .int .i64 0]⟩) HE.out b8 (fun e' he => Nat.ne_of_lt (Nat.lt_of_lt_of_le (HL0.out e' he) l8))⟩
    have G8 : Hd (w.heap.size ≤ g8) := ⟨Nat.le_trans HBW.out.size l8⟩
    simp only [putAll, List.foldl_cons, List.foldl_nil, Act.put, List.setIfInBounds_toArray, List.set_cons_succ, List.set_cons_zero, List.drop_succ_cons, List.drop_zero, e14, e8]
    generalize vs 12 = s12
    generalize vs 13 = s13
    clear hv hal hne hb HL0 HBW HLS e14 e8 l8 b8
    refine wpList_st rfl rfl rfl rfl rfl (sto_Z (HE.out.get 2 rfl)) ?_
    have HE' : Env (putL X1 g8 0 [.int .i64 Wd, .int .i64 Ht]) [⟨w.heap.size, 31, [.int .i64 x, .int .i64 y, .int .i64 t, .bool true]⟩, ⟨w.heap.size + 1, 31, [.int .i64 0, .int .i64 0, .int .i64 0, .bool false]⟩, ⟨g8, 84, [.int .i64 Wd, .int .i64 Ht]⟩] := HE.out.putF 2 rfl rfl
    have HB' := putL_below (show w.heap.size ≤ g8 from G8.out) [.int .i64 Wd, .int .i64 Ht] _ 0 HB.out
    generalize putL X1 g8 0 [.int .i64 Wd, .int .i64 Ht] = X2 at *
    replace HE := Hd.mk HE'
    replace HB := Hd.mk HB'
    clear HE' HB'
    go_upto_region 2 with fail
    refine wp_region_vd 9 [15, 16, 17, 18, 19, 20, 21, 22, 23] [2, 3, 7, 8] [] 84 [.int .i64 0, .int .i64 0] [isV (.agg #[.int .i64 Wd, .int .i64 Ht]), isV (.bool true), isV (.bool false), isV (.bool false), isV (.agg #[.int .i64 Wd, .int .i64 Ht]), isV (.agg #[.int .i64 x, .int .i64 y, .int .i64 t, .bool true]), isV (.bool true), isV (.bool false), isV (.bool false)] (by rfl) alloc_Z ?_ ?_
    · intro qi qh qA aa wx hb hs hd
      match qi, qh, qA with
      | 0, _, _ => exact .inl ⟨rfl, op_ldZ rfl rfl (hs 8 rfl) ((HE.out.to hb).get 2 rfl)⟩
      | 1, _, _ => exact .inl ⟨rfl, wp_b (bool_eq HS.out) (op_call1 rfl rfl Try.call53 (by rw [(show aa.eval (.tmp 15) = .agg #[.int .i64 Wd, .int .i64 Ht] from (hd 0 rfl))]; exact valid_got Wd Ht _))⟩
      | 2, _, _ => exact .inl ⟨rfl, ⟨_, op_not rfl (hd 1 rfl), rfl⟩⟩
      | 3, _, _ => exact .inl ⟨rfl, op_mv rfl (hd 2 rfl)⟩
      | 4, _, _ => exact .inl ⟨⟨rfl, .inl (hd 3 rfl)⟩, op_ldZ rfl rfl (hs 8 rfl) ((HE.out.to hb).get 2 rfl)⟩
      | 5, _, _ => exact .inl ⟨⟨rfl, .inl (hd 3 rfl)⟩, op_ldM rfl rfl (hs 5 rfl) ((HE.out.to hb).get 0 rfl)⟩
      | 6, _, _ => exact .inl ⟨⟨rfl, .inl (hd 3 rfl)⟩, wp_b (bool_eq H1.out) (op_call2 rfl rfl Try.call51 (by rw [(show aa.eval (.tmp 19) = .agg #[.int .i64 Wd, .int .i64 Ht] from (hd 4 rfl)), (show aa.eval (.tmp 20) = .agg #[.int .i64 x, .int .i64 y, .int .i64 t, .bool true] from (hd 5 rfl))]; exact allows_got Wd Ht x y t true _))⟩
      | 7, _, _ => exact .inl ⟨⟨rfl, .inl (hd 3 rfl)⟩, ⟨_, op_not rfl (hd 6 rfl), rfl⟩⟩
      | 8, _, _ => exact .inl ⟨rfl, ⟨_, op_pickF rfl (hd 3 rfl) (hd 7 rfl), rfl⟩⟩
      | qi + 9, h, _ => omega
    · intro vs X3 hb hv hal hne
      have HL0 := Hd.mk (HE.out.lt)
      have HBW := HB
      replace HB := Hd.mk (bel_then HB.out hb)
      replace HE : Hd (Env X3 [⟨w.heap.size, 31, [.int .i64 x, .int .i64 y, .int .i64 t, .bool true]⟩, ⟨w.heap.size + 1, 31, [.int .i64 0, .int .i64 0, .int .i64 0, .bool false]⟩, ⟨g8, 84, [.int .i64 Wd, .int .i64 Ht]⟩]) := ⟨HE.out.to hb⟩
      have HLS := HL0
      have e23 : vs 23 = .bool false := hv 8 (by decide) rfl
      simp only [putAll, List.foldl_cons, List.foldl_nil, Act.put, List.setIfInBounds_toArray, List.set_cons_succ, List.set_cons_zero, List.drop_succ_cons, List.drop_zero, e23]
      generalize vs 15 = s15
      generalize vs 16 = s16
      generalize vs 17 = s17
      generalize vs 18 = s18
      generalize vs 19 = s19
      generalize vs 20 = s20
      generalize vs 21 = s21
      generalize vs 22 = s22
      clear hv hal hne hb HL0 HBW HLS e23
      go_upto_region 4 with fail
      refine wp_region_vd 6 [25, 26, 27, 28, 29, 9] [0, 2, 4] [5] 31 [.int .i64 0, .int .i64 0, .int .i64 0, .bool false] [isV (.pointer (some ⟨w.heap.size, 2, none⟩)), isV (.int .i64 t), isV (.int .i64 (4 - t)), isV (.int .i64 ((4 - t) % 4)), isV (.agg #[.int .i64 0, .int .i64 0, .int .i64 ((4 - t) % 4), .bool false]), SP.any] (by rfl) alloc_M ?_ ?_
      · intro qi qh qA aa wx hb hs hd
        match qi, qh, qA with
        | 0, _, _ => exact .inl ⟨rfl, ⟨_, op_faM2 rfl (hs 5 rfl), rfl⟩⟩
        | 1, _, _ => exact .inl ⟨rfl, op_ldI rfl rfl (hd 0 rfl) ((HE.out.to hb).cell 0 2 rfl rfl)⟩
        | 2, _, _ => exact .inl ⟨rfl, ⟨_, op_sub (by unfold Fit; omega) rfl rfl (hd 1 rfl), rfl⟩⟩
        | 3, _, _ => exact .inl ⟨rfl, wp_b (int_eq HE4.out) (op_run rfl (op_rem (by omega) (by unfold Fit; omega) (by omega) rfl (hd 2 rfl) rfl _) rfl)⟩
        | 4, _, _ => exact .inl ⟨rfl, ⟨_, op_buM2 rfl (hd 3 rfl), rfl⟩⟩
        | 5, _, h => cases h
        | qi + 6, h, _ => omega
      · intro vs X4 hb hv hal hne
        have HL0 := Hd.mk (HE.out.lt)
        have HBW := HB
        replace HB := Hd.mk (bel_then HB.out hb)
        replace HE : Hd (Env X4 [⟨w.heap.size, 31, [.int .i64 x, .int .i64 y, .int .i64 t, .bool true]⟩, ⟨w.heap.size + 1, 31, [.int .i64 0, .int .i64 0, .int .i64 0, .bool false]⟩, ⟨g8, 84, [.int .i64 Wd, .int .i64 Ht]⟩]) := ⟨HE.out.to hb⟩
        have HLS := HL0
        have e29 : vs 29 = .agg #[.int .i64 0, .int .i64 0, .int .i64 ((4 - t) % 4), .bool false] := hv 4 (by decide) rfl
        obtain ⟨g9, e9, l9, b9⟩ : ∃ g, vs 9 = .pointer (some ⟨g, 0, none⟩) ∧ _ := hal 5 rfl
        replace HE : Hd (Env X4 [⟨w.heap.size, 31, [.int .i64 x, .int .i64 y, .int .i64 t, .bool true]⟩, ⟨w.heap.size + 1, 31, [.int .i64 0, .int .i64 0, .int .i64 0, .bool false]⟩, ⟨g8, 84, [.int .i64 Wd, .int .i64 Ht]⟩, ⟨g9, 31, [.int .i64 0, .int .i64 0, .int .i64 0, .bool false]⟩]) := ⟨Env.addne (e := ⟨g9, 31, [.int .i64 0, .int .i64 0, .int .i64 0, .bool false]⟩) HE.out b9 (fun e' he => Nat.ne_of_lt (Nat.lt_of_lt_of_le (HL0.out e' he) l9))⟩
        have G9 : Hd (w.heap.size ≤ g9) := ⟨Nat.le_trans HBW.out.size l9⟩
        simp only [putAll, List.foldl_cons, List.foldl_nil, Act.put, List.setIfInBounds_toArray, List.set_cons_succ, List.set_cons_zero, List.drop_succ_cons, List.drop_zero, e29, e9]
        generalize vs 25 = s25
        generalize vs 26 = s26
        generalize vs 27 = s27
        generalize vs 28 = s28
        clear hv hal hne hb HL0 HBW HLS e29 e9 l9 b9
        refine wpList_st rfl rfl rfl rfl rfl (sto_M (HE.out.get 3 rfl)) ?_
        have HE' : Env (putL X4 g9 0 [.int .i64 0, .int .i64 0, .int .i64 ((4 - t) % 4), .bool false]) [⟨w.heap.size, 31, [.int .i64 x, .int .i64 y, .int .i64 t, .bool true]⟩, ⟨w.heap.size + 1, 31, [.int .i64 0, .int .i64 0, .int .i64 0, .bool false]⟩, ⟨g8, 84, [.int .i64 Wd, .int .i64 Ht]⟩, ⟨g9, 31, [.int .i64 0, .int .i64 0, .int .i64 ((4 - t) % 4), .bool false]⟩] := HE.out.putF 3 rfl rfl
        have HB' := putL_below (show w.heap.size ≤ g9 from G9.out) [.int .i64 0, .int .i64 0, .int .i64 ((4 - t) % 4), .bool false] _ 0 HB.out
        generalize putL X4 g9 0 [.int .i64 0, .int .i64 0, .int .i64 ((4 - t) % 4), .bool false] = X5 at *
        replace HE := Hd.mk HE'
        replace HB := Hd.mk HB'
        clear HE' HB'
        go_upto_region 5 with fail
        refine wp_region_vd 2 [30, 31] [0] [] 84 [.int .i64 0, .int .i64 0] [isV (.pointer (some ⟨w.heap.size, 3, none⟩)), isV (.bool true)] (by rfl) alloc_Z ?_ ?_
        · intro qi qh qA aa wx hb hs hd
          match qi, qh, qA with
          | 0, _, _ => exact .inl ⟨rfl, ⟨_, op_faM3 rfl (hs 5 rfl), rfl⟩⟩
          | 1, _, _ => exact .inl ⟨rfl, wp_b (bool_eq rfl) (op_ldB rfl rfl (hd 0 rfl) ((HE.out.to hb).cell 0 3 rfl rfl))⟩
          | qi + 2, h, _ => omega
        · intro vs X6 hb hv hal hne
          have HL0 := Hd.mk (HE.out.lt)
          have HBW := HB
          replace HB := Hd.mk (bel_then HB.out hb)
          replace HE : Hd (Env X6 [⟨w.heap.size, 31, [.int .i64 x, .int .i64 y, .int .i64 t, .bool true]⟩, ⟨w.heap.size + 1, 31, [.int .i64 0, .int .i64 0, .int .i64 0, .bool false]⟩, ⟨g8, 84, [.int .i64 Wd, .int .i64 Ht]⟩, ⟨g9, 31, [.int .i64 0, .int .i64 0, .int .i64 ((4 - t) % 4), .bool false]⟩]) := ⟨HE.out.to hb⟩
          have HLS := HL0
          have e31 : vs 31 = .bool true := hv 1 (by decide) rfl
          simp only [putAll, List.foldl_cons, List.foldl_nil, Act.put, List.setIfInBounds_toArray, List.set_cons_succ, List.set_cons_zero, List.drop_succ_cons, List.drop_zero, e31]
          generalize vs 30 = s30
          clear hv hal hne hb HL0 HBW HLS e31
          go_upto_region 6 with fail
          refine wp_region_vd 3 [32, 33, 34] [0, 2] [] 84 [.int .i64 0, .int .i64 0] [isV (.pointer (some ⟨w.heap.size, 2, none⟩)), isV (.int .i64 t), isV (.agg #[.int .i64 0, .int .i64 0, .int .i64 t, .bool true])] (by rfl) alloc_Z ?_ ?_
          · intro qi qh qA aa wx hb hs hd
            match qi, qh, qA with
            | 0, _, _ => exact .inl ⟨rfl, ⟨_, op_faM2 rfl (hs 5 rfl), rfl⟩⟩
            | 1, _, _ => exact .inl ⟨rfl, op_ldI rfl rfl (hd 0 rfl) ((HE.out.to hb).cell 0 2 rfl rfl)⟩
            | 2, _, _ => exact .inl ⟨rfl, ⟨_, op_buM23 rfl (hd 1 rfl) rfl, rfl⟩⟩
            | qi + 3, h, _ => omega
          · intro vs X7 hb hv hal hne
            have HL0 := Hd.mk (HE.out.lt)
            have HBW := HB
            replace HB := Hd.mk (bel_then HB.out hb)
            replace HE : Hd (Env X7 [⟨w.heap.size, 31, [.int .i64 x, .int .i64 y, .int .i64 t, .bool true]⟩, ⟨w.heap.size + 1, 31, [.int .i64 0, .int .i64 0, .int .i64 0, .bool false]⟩, ⟨g8, 84, [.int .i64 Wd, .int .i64 Ht]⟩, ⟨g9, 31, [.int .i64 0, .int .i64 0, .int .i64 ((4 - t) % 4), .bool false]⟩]) := ⟨HE.out.to hb⟩
            have HLS := HL0
            have e34 : vs 34 = .agg #[.int .i64 0, .int .i64 0, .int .i64 t, .bool true] := hv 2 (by decide) rfl
            simp only [putAll, List.foldl_cons, List.foldl_nil, Act.put, List.setIfInBounds_toArray, List.set_cons_succ, List.set_cons_zero, List.drop_succ_cons, List.drop_zero, e34]
            generalize vs 32 = s32
            generalize vs 33 = s33
            clear hv hal hne hb HL0 HBW HLS e34
            refine wpList_st rfl rfl rfl rfl rfl (sto_M (HE.out.get 3 rfl)) ?_
            have HE' : Env (putL X7 g9 0 [.int .i64 0, .int .i64 0, .int .i64 t, .bool true]) [⟨w.heap.size, 31, [.int .i64 x, .int .i64 y, .int .i64 t, .bool true]⟩, ⟨w.heap.size + 1, 31, [.int .i64 0, .int .i64 0, .int .i64 0, .bool false]⟩, ⟨g8, 84, [.int .i64 Wd, .int .i64 Ht]⟩, ⟨g9, 31, [.int .i64 0, .int .i64 0, .int .i64 t, .bool true]⟩] := HE.out.putF 3 rfl rfl
            have HB' := putL_below (show w.heap.size ≤ g9 from G9.out) [.int .i64 0, .int .i64 0, .int .i64 t, .bool true] _ 0 HB.out
            generalize putL X7 g9 0 [.int .i64 0, .int .i64 0, .int .i64 t, .bool true] = X8 at *
            replace HE := Hd.mk HE'
            replace HB := Hd.mk HB'
            clear HE' HB'
            go_upto_region 7 with fail
            refine wp_region_vd 11 [36, 37, 38, 39, 40, 41, 42, 43, 35, 44, 45] [1, 3, 4, 6, 8, 9, 10] [] 84 [.int .i64 0, .int .i64 0] [isV (.agg #[.int .i64 0, .int .i64 0, .int .i64 t, .bool true]), isV (.pointer (some ⟨w.heap.size, 0, none⟩)), isV (.int .i64 x), isV (.int .i64 (-x)), isV (.pointer (some ⟨w.heap.size, 1, none⟩)), isV (.int .i64 y), isV (.int .i64 (-y)), isP (isV (.int .i64 pq.1)) (isV (.int .i64 pq.2)), isP (isV (.int .i64 pq.1)) (isV (.int .i64 pq.2)), isV (.int .i64 pq.1), isV (.int .i64 pq.2)] (by rfl) alloc_Z ?_ ?_
            · intro qi qh qA aa wx hb hs hd
              match qi, qh, qA with
              | 0, _, _ => exact .inl ⟨rfl, op_ldM rfl rfl (hs 9 rfl) ((HE.out.to hb).get 3 rfl)⟩
              | 1, _, _ => exact .inl ⟨rfl, ⟨_, op_faM0 rfl (hs 5 rfl), rfl⟩⟩
              | 2, _, _ => exact .inl ⟨rfl, op_ldI rfl rfl (hd 1 rfl) ((HE.out.to hb).cell 0 0 rfl rfl)⟩
              | 3, _, _ => exact .inl ⟨rfl, ⟨_, op_neg (by unfold Fit; omega) rfl (hd 2 rfl), rfl⟩⟩
              | 4, _, _ => exact .inl ⟨rfl, ⟨_, op_faM1 rfl (hs 5 rfl), rfl⟩⟩
              | 5, _, _ => exact .inl ⟨rfl, op_ldI rfl rfl (hd 4 rfl) ((HE.out.to hb).cell 0 1 rfl rfl)⟩
              | 6, _, _ => exact .inl ⟨rfl, ⟨_, op_neg (by unfold Fit; omega) rfl (hd 5 rfl), rfl⟩⟩
              | 7, _, _ => exact .inl ⟨rfl, op_call3 rfl rfl Try.call58 (by rw [(show aa.eval (.tmp 36) = .agg #[.int .i64 0, .int .i64 0, .int .i64 t, .bool true] from (hd 0 rfl)), (show aa.eval (.tmp 39) = .int .i64 (-x) from (hd 3 rfl)), (show aa.eval (.tmp 42) = .int .i64 (-y) from (hd 6 rfl))]; exact HTU.out _ _ _)⟩
              | 8, _, _ => exact .inl ⟨rfl, op_mv rfl (hd 7 rfl)⟩
              | 9, _, _ => exact .inl ⟨rfl, op_fst rfl (hd 8 rfl)⟩
              | 10, _, _ => exact .inl ⟨rfl, op_snd rfl (hd 8 rfl)⟩
              | qi + 11, h, _ => omega
            · intro vs X9 hb hv hal hne
              have HL0 := Hd.mk (HE.out.lt)
              have HBW := HB
              replace HB := Hd.mk (bel_then HB.out hb)
              replace HE : Hd (Env X9 [⟨w.heap.size, 31, [.int .i64 x, .int .i64 y, .int .i64 t, .bool true]⟩, ⟨w.heap.size + 1, 31, [.int .i64 0, .int .i64 0, .int .i64 0, .bool false]⟩, ⟨g8, 84, [.int .i64 Wd, .int .i64 Ht]⟩, ⟨g9, 31, [.int .i64 0, .int .i64 0, .int .i64 t, .bool true]⟩]) := ⟨HE.out.to hb⟩
              have HLS := HL0
              have e44 : vs 44 = .int .i64 pq.1 := hv 9 (by decide) rfl
              have e45 : vs 45 = .int .i64 pq.2 := hv 10 (by decide) rfl
              simp only [putAll, List.foldl_cons, List.foldl_nil, Act.put, List.setIfInBounds_toArray, List.set_cons_succ, List.set_cons_zero, List.drop_succ_cons, List.drop_zero, e44, e45]
              generalize vs 36 = s36
              generalize vs 37 = s37
              generalize vs 38 = s38
              generalize vs 39 = s39
              generalize vs 40 = s40
              generalize vs 41 = s41
              generalize vs 42 = s42
              generalize vs 43 = s43
              generalize vs 35 = s35
              clear hv hal hne hb HL0 HBW HLS e44 e45
              go_upto_region 8 with fail
              refine wp_region_vd 8 [47, 48, 49, 50, 46, 51, 52, 53] [1, 2, 4, 5, 6, 7] [] 84 [.int .i64 0, .int .i64 0] [isV (.agg #[.int .i64 Wd, .int .i64 Ht]), isV (.int .i64 pq.1), isV (.int .i64 pq.2), isP (isV (.int .i64 (pq.1 % Wd))) (isV (.int .i64 (pq.2 % Ht))), isP (isV (.int .i64 (pq.1 % Wd))) (isV (.int .i64 (pq.2 % Ht))), isV (.int .i64 (pq.1 % Wd)), isV (.int .i64 (pq.2 % Ht)), isV (.pointer (some ⟨g9, 0, none⟩))] (by rfl) alloc_Z ?_ ?_
              · intro qi qh qA aa wx hb hs hd
                match qi, qh, qA with
                | 0, _, _ => exact .inl ⟨rfl, op_ldZ rfl rfl (hs 8 rfl) ((HE.out.to hb).get 2 rfl)⟩
                | 1, _, _ => exact .inl ⟨rfl, op_mv rfl (hs 10 rfl)⟩
                | 2, _, _ => exact .inl ⟨rfl, op_mv rfl (hs 11 rfl)⟩
                | 3, _, _ => exact .inl ⟨rfl, op_call3 rfl rfl Try.call59 (by rw [(show aa.eval (.tmp 47) = .agg #[.int .i64 Wd, .int .i64 Ht] from (hd 0 rfl)), (show aa.eval (.tmp 48) = .int .i64 pq.1 from (hd 1 rfl)), (show aa.eval (.tmp 49) = .int .i64 pq.2 from (hd 2 rfl))]; exact wrap_got Wd Ht pq.1 pq.2 (by omega) (by omega) (by omega) (by omega) _)⟩
                | 4, _, _ => exact .inl ⟨rfl, op_mv rfl (hd 3 rfl)⟩
                | 5, _, _ => exact .inl ⟨rfl, op_fst rfl (hd 4 rfl)⟩
                | 6, _, _ => exact .inl ⟨rfl, op_snd rfl (hd 4 rfl)⟩
                | 7, _, _ => exact .inl ⟨rfl, ⟨_, op_faM0 rfl (hs 9 rfl), rfl⟩⟩
                | qi + 8, h, _ => omega
              · intro vs X10 hb hv hal hne
                have HL0 := Hd.mk (HE.out.lt)
                have HBW := HB
                replace HB := Hd.mk (bel_then HB.out hb)
                replace HE : Hd (Env X10 [⟨w.heap.size, 31, [.int .i64 x, .int .i64 y, .int .i64 t, .bool true]⟩, ⟨w.heap.size + 1, 31, [.int .i64 0, .int .i64 0, .int .i64 0, .bool false]⟩, ⟨g8, 84, [.int .i64 Wd, .int .i64 Ht]⟩, ⟨g9, 31, [.int .i64 0, .int .i64 0, .int .i64 t, .bool true]⟩]) := ⟨HE.out.to hb⟩
                have HLS := HL0
                have e53 : vs 53 = .pointer (some ⟨g9, 0, none⟩) := hv 7 (by decide) rfl
                have e51 : vs 51 = .int .i64 (pq.1 % Wd) := hv 5 (by decide) rfl
                have e52 : vs 52 = .int .i64 (pq.2 % Ht) := hv 6 (by decide) rfl
                simp only [putAll, List.foldl_cons, List.foldl_nil, Act.put, List.setIfInBounds_toArray, List.set_cons_succ, List.set_cons_zero, List.drop_succ_cons, List.drop_zero, e53, e51, e52]
                generalize vs 47 = s47
                generalize vs 48 = s48
                generalize vs 49 = s49
                generalize vs 50 = s50
                generalize vs 46 = s46
                clear hv hal hne hb HL0 HBW HLS e53 e51 e52
                refine wpList_st rfl rfl rfl rfl rfl (sto_I (HE.out.get 3 rfl) rfl) ?_
                have HE' : Env (putL X10 g9 0 [.int .i64 (pq.1 % Wd)]) [⟨w.heap.size, 31, [.int .i64 x, .int .i64 y, .int .i64 t, .bool true]⟩, ⟨w.heap.size + 1, 31, [.int .i64 0, .int .i64 0, .int .i64 0, .bool false]⟩, ⟨g8, 84, [.int .i64 Wd, .int .i64 Ht]⟩, ⟨g9, 31, [.int .i64 (pq.1 % Wd), .int .i64 0, .int .i64 t, .bool true]⟩] := HE.out.putO 3 rfl
                have HB' := putL_below (show w.heap.size ≤ g9 from G9.out) [.int .i64 (pq.1 % Wd)] _ 0 HB.out
                generalize putL X10 g9 0 [.int .i64 (pq.1 % Wd)] = X11 at *
                replace HE := Hd.mk HE'
                replace HB := Hd.mk HB'
                clear HE' HB'
                refine wpList_run rfl (op_faM1 rfl rfl _) ?_
                simp only [Act.put, List.setIfInBounds_toArray, List.set_cons_succ, List.set_cons_zero, Nat.zero_add]
                refine wpList_st rfl rfl rfl rfl rfl (sto_I (HE.out.get 3 rfl) rfl) ?_
                have HE' : Env (putL X11 g9 1 [.int .i64 (pq.2 % Ht)]) [⟨w.heap.size, 31, [.int .i64 x, .int .i64 y, .int .i64 t, .bool true]⟩, ⟨w.heap.size + 1, 31, [.int .i64 0, .int .i64 0, .int .i64 0, .bool false]⟩, ⟨g8, 84, [.int .i64 Wd, .int .i64 Ht]⟩, ⟨g9, 31, [.int .i64 (pq.1 % Wd), .int .i64 (pq.2 % Ht), .int .i64 t, .bool true]⟩] := HE.out.putO 3 rfl
                have HB' := putL_below (show w.heap.size ≤ g9 from G9.out) [.int .i64 (pq.2 % Ht)] _ 1 HB.out
                generalize putL X11 g9 1 [.int .i64 (pq.2 % Ht)] = X12 at *
                replace HE := Hd.mk HE'
                replace HB := Hd.mk HB'
                clear HE' HB'
                go_upto_region 9 with fail
                refine wp_region_vd 1 [55] [] [] 84 [.int .i64 0, .int .i64 0] [isV (.agg #[.int .i64 (pq.1 % Wd), .int .i64 (pq.2 % Ht), .int .i64 t, .bool true])] (by rfl) alloc_Z ?_ ?_
                · intro qi qh qA aa wx hb hs hd
                  match qi, qh, qA with
                  | 0, _, _ => exact .inl ⟨rfl, op_ldM rfl rfl (hs 9 rfl) ((HE.out.to hb).get 3 rfl)⟩
                  | qi + 1, h, _ => omega
                · intro vs X13 hb hv hal hne
                  have HL0 := Hd.mk (HE.out.lt)
                  have HBW := HB
                  replace HB := Hd.mk (bel_then HB.out hb)
                  replace HE : Hd (Env X13 [⟨w.heap.size, 31, [.int .i64 x, .int .i64 y, .int .i64 t, .bool true]⟩, ⟨w.heap.size + 1, 31, [.int .i64 0, .int .i64 0, .int .i64 0, .bool false]⟩, ⟨g8, 84, [.int .i64 Wd, .int .i64 Ht]⟩, ⟨g9, 31, [.int .i64 (pq.1 % Wd), .int .i64 (pq.2 % Ht), .int .i64 t, .bool true]⟩]) := ⟨HE.out.to hb⟩
                  have HLS := HL0
                  have e55 : vs 55 = .agg #[.int .i64 (pq.1 % Wd), .int .i64 (pq.2 % Ht), .int .i64 t, .bool true] := hv 0 (by decide) rfl
                  simp only [putAll, List.foldl_cons, List.foldl_nil, Act.put, List.setIfInBounds_toArray, List.set_cons_succ, List.set_cons_zero, List.drop_succ_cons, List.drop_zero, e55]
                  clear hv hal hne hb HL0 HBW HLS e55
                  refine wpList_st rfl rfl rfl rfl rfl (sto_M (HE.out.get 1 rfl)) ?_
                  have HE' : Env (putL X13 (w.heap.size + 1) 0 [.int .i64 (pq.1 % Wd), .int .i64 (pq.2 % Ht), .int .i64 t, .bool true]) [⟨w.heap.size, 31, [.int .i64 x, .int .i64 y, .int .i64 t, .bool true]⟩, ⟨w.heap.size + 1, 31, [.int .i64 (pq.1 % Wd), .int .i64 (pq.2 % Ht), .int .i64 t, .bool true]⟩, ⟨g8, 84, [.int .i64 Wd, .int .i64 Ht]⟩, ⟨g9, 31, [.int .i64 (pq.1 % Wd), .int .i64 (pq.2 % Ht), .int .i64 t, .bool true]⟩] := HE.out.putF 1 rfl rfl
                  have HB' := putL_below (show w.heap.size ≤ w.heap.size + 1 from by omega) [.int .i64 (pq.1 % Wd), .int .i64 (pq.2 % Ht), .int .i64 t, .bool true] _ 0 HB.out
                  generalize putL X13 (w.heap.size + 1) 0 [.int .i64 (pq.1 % Wd), .int .i64 (pq.2 % Ht), .int .i64 t, .bool true] = X14 at *
                  replace HE := Hd.mk HE'
                  replace HB := Hd.mk HB'
                  clear HE' HB'
                  go_wp2_with fail
                  have k0a := HE.out.cell 1 0 rfl rfl
                  have k0b := HE.out.cell 1 1 rfl rfl
                  have k0c := HE.out.cell 1 2 rfl rfl
                  have k0d := HE.out.cell 1 3 rfl rfl
                  refine bodyPost_ret (v := .tuple #[.agg #[.int .i64 (pq.1 % Wd), .int .i64 (pq.2 % Ht), .int .i64 t, .bool true], .int .i64 0]) (by simp [results, Try.results24, go_sem, k0a, k0b, k0c, k0d]) rfl ?_
                  exact ⟨_, rfl, HB.out, _, _, rfl, rfl, rfl⟩
set_option maxRecDepth 100000 in
set_option maxHeartbeats 1000000 in
theorem Inverse_false (Wd Ht x y t : Int) (hs : sizeB Wd Ht = true) (h1 : alB Wd Ht x y t = true) (w : World) :
    Calls Try.prog 24 #[.int .i64 Wd, .int .i64 Ht, .agg #[.int .i64 x, .int .i64 y, .int .i64 t, .bool false]] w (Got w (isP (isV (.agg #[.int .i64 ((ivp x y t false).1 % Wd), .int .i64 ((ivp x y t false).2 % Ht), .int .i64 (ivt t false), .bool false])) (isV (.int .i64 0))).p) := by
  obtain ⟨hw, hh, hx, hy, ht⟩ := okm hs h1
  have HS := Hd.mk hs
  have H1 := Hd.mk h1
  clear hs h1
  have HE4 : Hd (Int.tmod (4 - t) 4 = (4 - t) % 4) := ⟨tmod_nonneg (by omega)⟩
  have HTU := Hd.mk (fun (a b : Int) W => turned_got a b ((4 - t) % 4) false (-x) (-y) (by omega) (by omega) (by omega) W)
  have hb1 := trn_bound false (x := -x) (y := -y) (b := 8) (by omega) (by omega) ((4 - t) % 4).toNat
  obtain ⟨hb1, hb2⟩ := hb1
  have e0 : ivt t false = (4 - t) % 4 := rfl
  have e1 : ivp x y t false = trn false (-x) (-y) ((4 - t) % 4).toNat := rfl
  rw [e0, e1]
  obtain ⟨pq, hpq⟩ : ∃ p, p = trn false (-x) (-y) ((4 - t) % 4).toNat := ⟨_, rfl⟩
  rw [← hpq] at HTU hb1 hb2 ⊢
  clear hpq e0 e1
  go_enter Try.func24, Try.ntmps24
  go_upto_region 1 with fail
  obtain ⟨W0, hW0⟩ : ∃ W : World, W = (w.alloc (.cells #[.int .i64 x, .int .i64 y, .int .i64 t, .bool false] 31)).alloc (.cells #[.int .i64 0, .int .i64 0, .int .i64 0, .bool false] 31) := ⟨_, rfl⟩
  rw [← hW0]
  obtain ⟨he, hb⟩ := env_two hW0
  have HE := Hd.mk he
  have HB := Hd.mk hb
  clear he hb hW0
  refine wp_region_vd 4 [12, 13, 14, 8] [0, 1, 2] [3] 84 [.int .i64 0, .int .i64 0] [isV (.int .i64 Wd), isV (.int .i64 Ht), isV (.agg #[.int .i64 Wd, .int .i64 Ht]), SP.any] (by rfl) alloc_Z ?_ ?_
  · intro qi qh qA aa wx hb hs hd
    match qi, qh, qA with
    | 0, _, _ => exact .inl ⟨rfl, op_mv rfl (hs 0 rfl)⟩
    | 1, _, _ => exact .inl ⟨rfl, op_mv rfl (hs 1 rfl)⟩
    | 2, _, _ => exact .inl ⟨rfl, ⟨_, op_buZ rfl (hd 0 rfl) (hd 1 rfl), rfl⟩⟩
    | 3, _, h => cases h
    | qi + 4, h, _ => omega
  · intro vs X1 hb hv hal hne
    have HL0 := Hd.mk (HE.out.lt)
    have HBW := HB
    replace HB := Hd.mk (bel_then HB.out hb)
    replace HE : Hd (Env X1 [⟨w.heap.size, 31, [.int .i64 x, .int .i64 y, .int .i64 t, .bool false]⟩, ⟨w.heap.size + 1, 31, [.int .i64 0, .int .i64 0, .int .i64 0, .bool false]⟩]) := ⟨HE.out.to hb⟩
    have HLS := HL0
    have e14 : vs 14 = .agg #[.int .i64 Wd, .int .i64 Ht] := hv 2 (by decide) rfl
    obtain ⟨g8, e8, l8, b8⟩ : ∃ g, vs 8 = .pointer (some ⟨g, 0, none⟩) ∧ _ := hal 3 rfl
    replace HE : Hd (Env X1 [⟨w.heap.size, 31, [.int .i64 x, .int .i64 y, .int .i64 t, .bool false]⟩, ⟨w.heap.size + 1, 31, [.int .i64 0, .int .i64 0, .int .i64 0, .bool false]⟩, ⟨g8, 84, [.int .i64 0, .int .i64 0]⟩]) := ⟨Env.addne (e := ⟨g8, 84, [.int .i64 0, .int .i64 0]⟩) HE.out b8 (fun e' he => Nat.ne_of_lt (Nat.lt_of_lt_of_le (HL0.out e' he) l8))⟩
    have G8 : Hd (w.heap.size ≤ g8) := ⟨Nat.le_trans HBW.out.size l8⟩
    simp only [putAll, List.foldl_cons, List.foldl_nil, Act.put, List.setIfInBounds_toArray, List.set_cons_succ, List.set_cons_zero, List.drop_succ_cons, List.drop_zero, e14, e8]
    generalize vs 12 = s12
    generalize vs 13 = s13
    clear hv hal hne hb HL0 HBW HLS e14 e8 l8 b8
    refine wpList_st rfl rfl rfl rfl rfl (sto_Z (HE.out.get 2 rfl)) ?_
    have HE' : Env (putL X1 g8 0 [.int .i64 Wd, .int .i64 Ht]) [⟨w.heap.size, 31, [.int .i64 x, .int .i64 y, .int .i64 t, .bool false]⟩, ⟨w.heap.size + 1, 31, [.int .i64 0, .int .i64 0, .int .i64 0, .bool false]⟩, ⟨g8, 84, [.int .i64 Wd, .int .i64 Ht]⟩] := HE.out.putF 2 rfl rfl
    have HB' := putL_below (show w.heap.size ≤ g8 from G8.out) [.int .i64 Wd, .int .i64 Ht] _ 0 HB.out
    generalize putL X1 g8 0 [.int .i64 Wd, .int .i64 Ht] = X2 at *
    replace HE := Hd.mk HE'
    replace HB := Hd.mk HB'
    clear HE' HB'
    go_upto_region 2 with fail
    refine wp_region_vd 9 [15, 16, 17, 18, 19, 20, 21, 22, 23] [2, 3, 7, 8] [] 84 [.int .i64 0, .int .i64 0] [isV (.agg #[.int .i64 Wd, .int .i64 Ht]), isV (.bool true), isV (.bool false), isV (.bool false), isV (.agg #[.int .i64 Wd, .int .i64 Ht]), isV (.agg #[.int .i64 x, .int .i64 y, .int .i64 t, .bool false]), isV (.bool true), isV (.bool false), isV (.bool false)] (by rfl) alloc_Z ?_ ?_
    · intro qi qh qA aa wx hb hs hd
      match qi, qh, qA with
      | 0, _, _ => exact .inl ⟨rfl, op_ldZ rfl rfl (hs 8 rfl) ((HE.out.to hb).get 2 rfl)⟩
      | 1, _, _ => exact .inl ⟨rfl, wp_b (bool_eq HS.out) (op_call1 rfl rfl Try.call53 (by rw [(show aa.eval (.tmp 15) = .agg #[.int .i64 Wd, .int .i64 Ht] from (hd 0 rfl))]; exact valid_got Wd Ht _))⟩
      | 2, _, _ => exact .inl ⟨rfl, ⟨_, op_not rfl (hd 1 rfl), rfl⟩⟩
      | 3, _, _ => exact .inl ⟨rfl, op_mv rfl (hd 2 rfl)⟩
      | 4, _, _ => exact .inl ⟨⟨rfl, .inl (hd 3 rfl)⟩, op_ldZ rfl rfl (hs 8 rfl) ((HE.out.to hb).get 2 rfl)⟩
      | 5, _, _ => exact .inl ⟨⟨rfl, .inl (hd 3 rfl)⟩, op_ldM rfl rfl (hs 5 rfl) ((HE.out.to hb).get 0 rfl)⟩
      | 6, _, _ => exact .inl ⟨⟨rfl, .inl (hd 3 rfl)⟩, wp_b (bool_eq H1.out) (op_call2 rfl rfl Try.call51 (by rw [(show aa.eval (.tmp 19) = .agg #[.int .i64 Wd, .int .i64 Ht] from (hd 4 rfl)), (show aa.eval (.tmp 20) = .agg #[.int .i64 x, .int .i64 y, .int .i64 t, .bool false] from (hd 5 rfl))]; exact allows_got Wd Ht x y t false _))⟩
      | 7, _, _ => exact .inl ⟨⟨rfl, .inl (hd 3 rfl)⟩, ⟨_, op_not rfl (hd 6 rfl), rfl⟩⟩
      | 8, _, _ => exact .inl ⟨rfl, ⟨_, op_pickF rfl (hd 3 rfl) (hd 7 rfl), rfl⟩⟩
      | qi + 9, h, _ => omega
    · intro vs X3 hb hv hal hne
      have HL0 := Hd.mk (HE.out.lt)
      have HBW := HB
      replace HB := Hd.mk (bel_then HB.out hb)
      replace HE : Hd (Env X3 [⟨w.heap.size, 31, [.int .i64 x, .int .i64 y, .int .i64 t, .bool false]⟩, ⟨w.heap.size + 1, 31, [.int .i64 0, .int .i64 0, .int .i64 0, .bool false]⟩, ⟨g8, 84, [.int .i64 Wd, .int .i64 Ht]⟩]) := ⟨HE.out.to hb⟩
      have HLS := HL0
      have e23 : vs 23 = .bool false := hv 8 (by decide) rfl
      simp only [putAll, List.foldl_cons, List.foldl_nil, Act.put, List.setIfInBounds_toArray, List.set_cons_succ, List.set_cons_zero, List.drop_succ_cons, List.drop_zero, e23]
      generalize vs 15 = s15
      generalize vs 16 = s16
      generalize vs 17 = s17
      generalize vs 18 = s18
      generalize vs 19 = s19
      generalize vs 20 = s20
      generalize vs 21 = s21
      generalize vs 22 = s22
      clear hv hal hne hb HL0 HBW HLS e23
      go_upto_region 4 with fail
      refine wp_region_vd 6 [25, 26, 27, 28, 29, 9] [0, 2, 4] [5] 31 [.int .i64 0, .int .i64 0, .int .i64 0, .bool false] [isV (.pointer (some ⟨w.heap.size, 2, none⟩)), isV (.int .i64 t), isV (.int .i64 (4 - t)), isV (.int .i64 ((4 - t) % 4)), isV (.agg #[.int .i64 0, .int .i64 0, .int .i64 ((4 - t) % 4), .bool false]), SP.any] (by rfl) alloc_M ?_ ?_
      · intro qi qh qA aa wx hb hs hd
        match qi, qh, qA with
        | 0, _, _ => exact .inl ⟨rfl, ⟨_, op_faM2 rfl (hs 5 rfl), rfl⟩⟩
        | 1, _, _ => exact .inl ⟨rfl, op_ldI rfl rfl (hd 0 rfl) ((HE.out.to hb).cell 0 2 rfl rfl)⟩
        | 2, _, _ => exact .inl ⟨rfl, ⟨_, op_sub (by unfold Fit; omega) rfl rfl (hd 1 rfl), rfl⟩⟩
        | 3, _, _ => exact .inl ⟨rfl, wp_b (int_eq HE4.out) (op_run rfl (op_rem (by omega) (by unfold Fit; omega) (by omega) rfl (hd 2 rfl) rfl _) rfl)⟩
        | 4, _, _ => exact .inl ⟨rfl, ⟨_, op_buM2 rfl (hd 3 rfl), rfl⟩⟩
        | 5, _, h => cases h
        | qi + 6, h, _ => omega
      · intro vs X4 hb hv hal hne
        have HL0 := Hd.mk (HE.out.lt)
        have HBW := HB
        replace HB := Hd.mk (bel_then HB.out hb)
        replace HE : Hd (Env X4 [⟨w.heap.size, 31, [.int .i64 x, .int .i64 y, .int .i64 t, .bool false]⟩, ⟨w.heap.size + 1, 31, [.int .i64 0, .int .i64 0, .int .i64 0, .bool false]⟩, ⟨g8, 84, [.int .i64 Wd, .int .i64 Ht]⟩]) := ⟨HE.out.to hb⟩
        have HLS := HL0
        have e29 : vs 29 = .agg #[.int .i64 0, .int .i64 0, .int .i64 ((4 - t) % 4), .bool false] := hv 4 (by decide) rfl
        obtain ⟨g9, e9, l9, b9⟩ : ∃ g, vs 9 = .pointer (some ⟨g, 0, none⟩) ∧ _ := hal 5 rfl
        replace HE : Hd (Env X4 [⟨w.heap.size, 31, [.int .i64 x, .int .i64 y, .int .i64 t, .bool false]⟩, ⟨w.heap.size + 1, 31, [.int .i64 0, .int .i64 0, .int .i64 0, .bool false]⟩, ⟨g8, 84, [.int .i64 Wd, .int .i64 Ht]⟩, ⟨g9, 31, [.int .i64 0, .int .i64 0, .int .i64 0, .bool false]⟩]) := ⟨Env.addne (e := ⟨g9, 31, [.int .i64 0, .int .i64 0, .int .i64 0, .bool false]⟩) HE.out b9 (fun e' he => Nat.ne_of_lt (Nat.lt_of_lt_of_le (HL0.out e' he) l9))⟩
        have G9 : Hd (w.heap.size ≤ g9) := ⟨Nat.le_trans HBW.out.size l9⟩
        simp only [putAll, List.foldl_cons, List.foldl_nil, Act.put, List.setIfInBounds_toArray, List.set_cons_succ, List.set_cons_zero, List.drop_succ_cons, List.drop_zero, e29, e9]
        generalize vs 25 = s25
        generalize vs 26 = s26
        generalize vs 27 = s27
        generalize vs 28 = s28
        clear hv hal hne hb HL0 HBW HLS e29 e9 l9 b9
        refine wpList_st rfl rfl rfl rfl rfl (sto_M (HE.out.get 3 rfl)) ?_
        have HE' : Env (putL X4 g9 0 [.int .i64 0, .int .i64 0, .int .i64 ((4 - t) % 4), .bool false]) [⟨w.heap.size, 31, [.int .i64 x, .int .i64 y, .int .i64 t, .bool false]⟩, ⟨w.heap.size + 1, 31, [.int .i64 0, .int .i64 0, .int .i64 0, .bool false]⟩, ⟨g8, 84, [.int .i64 Wd, .int .i64 Ht]⟩, ⟨g9, 31, [.int .i64 0, .int .i64 0, .int .i64 ((4 - t) % 4), .bool false]⟩] := HE.out.putF 3 rfl rfl
        have HB' := putL_below (show w.heap.size ≤ g9 from G9.out) [.int .i64 0, .int .i64 0, .int .i64 ((4 - t) % 4), .bool false] _ 0 HB.out
        generalize putL X4 g9 0 [.int .i64 0, .int .i64 0, .int .i64 ((4 - t) % 4), .bool false] = X5 at *
        replace HE := Hd.mk HE'
        replace HB := Hd.mk HB'
        clear HE' HB'
        go_upto_region 5 with fail
        refine wp_region_vd 2 [30, 31] [0] [] 84 [.int .i64 0, .int .i64 0] [isV (.pointer (some ⟨w.heap.size, 3, none⟩)), isV (.bool false)] (by rfl) alloc_Z ?_ ?_
        · intro qi qh qA aa wx hb hs hd
          match qi, qh, qA with
          | 0, _, _ => exact .inl ⟨rfl, ⟨_, op_faM3 rfl (hs 5 rfl), rfl⟩⟩
          | 1, _, _ => exact .inl ⟨rfl, wp_b (bool_eq rfl) (op_ldB rfl rfl (hd 0 rfl) ((HE.out.to hb).cell 0 3 rfl rfl))⟩
          | qi + 2, h, _ => omega
        · intro vs X6 hb hv hal hne
          have HL0 := Hd.mk (HE.out.lt)
          have HBW := HB
          replace HB := Hd.mk (bel_then HB.out hb)
          replace HE : Hd (Env X6 [⟨w.heap.size, 31, [.int .i64 x, .int .i64 y, .int .i64 t, .bool false]⟩, ⟨w.heap.size + 1, 31, [.int .i64 0, .int .i64 0, .int .i64 0, .bool false]⟩, ⟨g8, 84, [.int .i64 Wd, .int .i64 Ht]⟩, ⟨g9, 31, [.int .i64 0, .int .i64 0, .int .i64 ((4 - t) % 4), .bool false]⟩]) := ⟨HE.out.to hb⟩
          have HLS := HL0
          have e31 : vs 31 = .bool false := hv 1 (by decide) rfl
          simp only [putAll, List.foldl_cons, List.foldl_nil, Act.put, List.setIfInBounds_toArray, List.set_cons_succ, List.set_cons_zero, List.drop_succ_cons, List.drop_zero, e31]
          generalize vs 30 = s30
          clear hv hal hne hb HL0 HBW HLS e31
          go_upto_region 7 with fail
          refine wp_region_vd 11 [36, 37, 38, 39, 40, 41, 42, 43, 35, 44, 45] [1, 3, 4, 6, 8, 9, 10] [] 84 [.int .i64 0, .int .i64 0] [isV (.agg #[.int .i64 0, .int .i64 0, .int .i64 ((4 - t) % 4), .bool false]), isV (.pointer (some ⟨w.heap.size, 0, none⟩)), isV (.int .i64 x), isV (.int .i64 (-x)), isV (.pointer (some ⟨w.heap.size, 1, none⟩)), isV (.int .i64 y), isV (.int .i64 (-y)), isP (isV (.int .i64 pq.1)) (isV (.int .i64 pq.2)), isP (isV (.int .i64 pq.1)) (isV (.int .i64 pq.2)), isV (.int .i64 pq.1), isV (.int .i64 pq.2)] (by rfl) alloc_Z ?_ ?_
          · intro qi qh qA aa wx hb hs hd
            match qi, qh, qA with
            | 0, _, _ => exact .inl ⟨rfl, op_ldM rfl rfl (hs 9 rfl) ((HE.out.to hb).get 3 rfl)⟩
            | 1, _, _ => exact .inl ⟨rfl, ⟨_, op_faM0 rfl (hs 5 rfl), rfl⟩⟩
            | 2, _, _ => exact .inl ⟨rfl, op_ldI rfl rfl (hd 1 rfl) ((HE.out.to hb).cell 0 0 rfl rfl)⟩
            | 3, _, _ => exact .inl ⟨rfl, ⟨_, op_neg (by unfold Fit; omega) rfl (hd 2 rfl), rfl⟩⟩
            | 4, _, _ => exact .inl ⟨rfl, ⟨_, op_faM1 rfl (hs 5 rfl), rfl⟩⟩
            | 5, _, _ => exact .inl ⟨rfl, op_ldI rfl rfl (hd 4 rfl) ((HE.out.to hb).cell 0 1 rfl rfl)⟩
            | 6, _, _ => exact .inl ⟨rfl, ⟨_, op_neg (by unfold Fit; omega) rfl (hd 5 rfl), rfl⟩⟩
            | 7, _, _ => exact .inl ⟨rfl, op_call3 rfl rfl Try.call58 (by rw [(show aa.eval (.tmp 36) = .agg #[.int .i64 0, .int .i64 0, .int .i64 ((4 - t) % 4), .bool false] from (hd 0 rfl)), (show aa.eval (.tmp 39) = .int .i64 (-x) from (hd 3 rfl)), (show aa.eval (.tmp 42) = .int .i64 (-y) from (hd 6 rfl))]; exact HTU.out _ _ _)⟩
            | 8, _, _ => exact .inl ⟨rfl, op_mv rfl (hd 7 rfl)⟩
            | 9, _, _ => exact .inl ⟨rfl, op_fst rfl (hd 8 rfl)⟩
            | 10, _, _ => exact .inl ⟨rfl, op_snd rfl (hd 8 rfl)⟩
            | qi + 11, h, _ => omega
          · intro vs X7 hb hv hal hne
            have HL0 := Hd.mk (HE.out.lt)
            have HBW := HB
            replace HB := Hd.mk (bel_then HB.out hb)
            replace HE : Hd (Env X7 [⟨w.heap.size, 31, [.int .i64 x, .int .i64 y, .int .i64 t, .bool false]⟩, ⟨w.heap.size + 1, 31, [.int .i64 0, .int .i64 0, .int .i64 0, .bool false]⟩, ⟨g8, 84, [.int .i64 Wd, .int .i64 Ht]⟩, ⟨g9, 31, [.int .i64 0, .int .i64 0, .int .i64 ((4 - t) % 4), .bool false]⟩]) := ⟨HE.out.to hb⟩
            have HLS := HL0
            have e44 : vs 44 = .int .i64 pq.1 := hv 9 (by decide) rfl
            have e45 : vs 45 = .int .i64 pq.2 := hv 10 (by decide) rfl
            simp only [putAll, List.foldl_cons, List.foldl_nil, Act.put, List.setIfInBounds_toArray, List.set_cons_succ, List.set_cons_zero, List.drop_succ_cons, List.drop_zero, e44, e45]
            generalize vs 36 = s36
            generalize vs 37 = s37
            generalize vs 38 = s38
            generalize vs 39 = s39
            generalize vs 40 = s40
            generalize vs 41 = s41
            generalize vs 42 = s42
            generalize vs 43 = s43
            generalize vs 35 = s35
            clear hv hal hne hb HL0 HBW HLS e44 e45
            go_upto_region 8 with fail
            refine wp_region_vd 8 [47, 48, 49, 50, 46, 51, 52, 53] [1, 2, 4, 5, 6, 7] [] 84 [.int .i64 0, .int .i64 0] [isV (.agg #[.int .i64 Wd, .int .i64 Ht]), isV (.int .i64 pq.1), isV (.int .i64 pq.2), isP (isV (.int .i64 (pq.1 % Wd))) (isV (.int .i64 (pq.2 % Ht))), isP (isV (.int .i64 (pq.1 % Wd))) (isV (.int .i64 (pq.2 % Ht))), isV (.int .i64 (pq.1 % Wd)), isV (.int .i64 (pq.2 % Ht)), isV (.pointer (some ⟨g9, 0, none⟩))] (by rfl) alloc_Z ?_ ?_
            · intro qi qh qA aa wx hb hs hd
              match qi, qh, qA with
              | 0, _, _ => exact .inl ⟨rfl, op_ldZ rfl rfl (hs 8 rfl) ((HE.out.to hb).get 2 rfl)⟩
              | 1, _, _ => exact .inl ⟨rfl, op_mv rfl (hs 10 rfl)⟩
              | 2, _, _ => exact .inl ⟨rfl, op_mv rfl (hs 11 rfl)⟩
              | 3, _, _ => exact .inl ⟨rfl, op_call3 rfl rfl Try.call59 (by rw [(show aa.eval (.tmp 47) = .agg #[.int .i64 Wd, .int .i64 Ht] from (hd 0 rfl)), (show aa.eval (.tmp 48) = .int .i64 pq.1 from (hd 1 rfl)), (show aa.eval (.tmp 49) = .int .i64 pq.2 from (hd 2 rfl))]; exact wrap_got Wd Ht pq.1 pq.2 (by omega) (by omega) (by omega) (by omega) _)⟩
              | 4, _, _ => exact .inl ⟨rfl, op_mv rfl (hd 3 rfl)⟩
              | 5, _, _ => exact .inl ⟨rfl, op_fst rfl (hd 4 rfl)⟩
              | 6, _, _ => exact .inl ⟨rfl, op_snd rfl (hd 4 rfl)⟩
              | 7, _, _ => exact .inl ⟨rfl, ⟨_, op_faM0 rfl (hs 9 rfl), rfl⟩⟩
              | qi + 8, h, _ => omega
            · intro vs X8 hb hv hal hne
              have HL0 := Hd.mk (HE.out.lt)
              have HBW := HB
              replace HB := Hd.mk (bel_then HB.out hb)
              replace HE : Hd (Env X8 [⟨w.heap.size, 31, [.int .i64 x, .int .i64 y, .int .i64 t, .bool false]⟩, ⟨w.heap.size + 1, 31, [.int .i64 0, .int .i64 0, .int .i64 0, .bool false]⟩, ⟨g8, 84, [.int .i64 Wd, .int .i64 Ht]⟩, ⟨g9, 31, [.int .i64 0, .int .i64 0, .int .i64 ((4 - t) % 4), .bool false]⟩]) := ⟨HE.out.to hb⟩
              have HLS := HL0
              have e53 : vs 53 = .pointer (some ⟨g9, 0, none⟩) := hv 7 (by decide) rfl
              have e51 : vs 51 = .int .i64 (pq.1 % Wd) := hv 5 (by decide) rfl
              have e52 : vs 52 = .int .i64 (pq.2 % Ht) := hv 6 (by decide) rfl
              simp only [putAll, List.foldl_cons, List.foldl_nil, Act.put, List.setIfInBounds_toArray, List.set_cons_succ, List.set_cons_zero, List.drop_succ_cons, List.drop_zero, e53, e51, e52]
              generalize vs 47 = s47
              generalize vs 48 = s48
              generalize vs 49 = s49
              generalize vs 50 = s50
              generalize vs 46 = s46
              clear hv hal hne hb HL0 HBW HLS e53 e51 e52
              refine wpList_st rfl rfl rfl rfl rfl (sto_I (HE.out.get 3 rfl) rfl) ?_
              have HE' : Env (putL X8 g9 0 [.int .i64 (pq.1 % Wd)]) [⟨w.heap.size, 31, [.int .i64 x, .int .i64 y, .int .i64 t, .bool false]⟩, ⟨w.heap.size + 1, 31, [.int .i64 0, .int .i64 0, .int .i64 0, .bool false]⟩, ⟨g8, 84, [.int .i64 Wd, .int .i64 Ht]⟩, ⟨g9, 31, [.int .i64 (pq.1 % Wd), .int .i64 0, .int .i64 ((4 - t) % 4), .bool false]⟩] := HE.out.putO 3 rfl
              have HB' := putL_below (show w.heap.size ≤ g9 from G9.out) [.int .i64 (pq.1 % Wd)] _ 0 HB.out
              generalize putL X8 g9 0 [.int .i64 (pq.1 % Wd)] = X9 at *
              replace HE := Hd.mk HE'
              replace HB := Hd.mk HB'
              clear HE' HB'
              refine wpList_run rfl (op_faM1 rfl rfl _) ?_
              simp only [Act.put, List.setIfInBounds_toArray, List.set_cons_succ, List.set_cons_zero, Nat.zero_add]
              refine wpList_st rfl rfl rfl rfl rfl (sto_I (HE.out.get 3 rfl) rfl) ?_
              have HE' : Env (putL X9 g9 1 [.int .i64 (pq.2 % Ht)]) [⟨w.heap.size, 31, [.int .i64 x, .int .i64 y, .int .i64 t, .bool false]⟩, ⟨w.heap.size + 1, 31, [.int .i64 0, .int .i64 0, .int .i64 0, .bool false]⟩, ⟨g8, 84, [.int .i64 Wd, .int .i64 Ht]⟩, ⟨g9, 31, [.int .i64 (pq.1 % Wd), .int .i64 (pq.2 % Ht), .int .i64 ((4 - t) % 4), .bool false]⟩] := HE.out.putO 3 rfl
              have HB' := putL_below (show w.heap.size ≤ g9 from G9.out) [.int .i64 (pq.2 % Ht)] _ 1 HB.out
              generalize putL X9 g9 1 [.int .i64 (pq.2 % Ht)] = X10 at *
              replace HE := Hd.mk HE'
              replace HB := Hd.mk HB'
              clear HE' HB'
              go_upto_region 9 with fail
              refine wp_region_vd 1 [55] [] [] 84 [.int .i64 0, .int .i64 0] [isV (.agg #[.int .i64 (pq.1 % Wd), .int .i64 (pq.2 % Ht), .int .i64 ((4 - t) % 4), .bool false])] (by rfl) alloc_Z ?_ ?_
              · intro qi qh qA aa wx hb hs hd
                match qi, qh, qA with
                | 0, _, _ => exact .inl ⟨rfl, op_ldM rfl rfl (hs 9 rfl) ((HE.out.to hb).get 3 rfl)⟩
                | qi + 1, h, _ => omega
              · intro vs X11 hb hv hal hne
                have HL0 := Hd.mk (HE.out.lt)
                have HBW := HB
                replace HB := Hd.mk (bel_then HB.out hb)
                replace HE : Hd (Env X11 [⟨w.heap.size, 31, [.int .i64 x, .int .i64 y, .int .i64 t, .bool false]⟩, ⟨w.heap.size + 1, 31, [.int .i64 0, .int .i64 0, .int .i64 0, .bool false]⟩, ⟨g8, 84, [.int .i64 Wd, .int .i64 Ht]⟩, ⟨g9, 31, [.int .i64 (pq.1 % Wd), .int .i64 (pq.2 % Ht), .int .i64 ((4 - t) % 4), .bool false]⟩]) := ⟨HE.out.to hb⟩
                have HLS := HL0
                have e55 : vs 55 = .agg #[.int .i64 (pq.1 % Wd), .int .i64 (pq.2 % Ht), .int .i64 ((4 - t) % 4), .bool false] := hv 0 (by decide) rfl
                simp only [putAll, List.foldl_cons, List.foldl_nil, Act.put, List.setIfInBounds_toArray, List.set_cons_succ, List.set_cons_zero, List.drop_succ_cons, List.drop_zero, e55]
                clear hv hal hne hb HL0 HBW HLS e55
                refine wpList_st rfl rfl rfl rfl rfl (sto_M (HE.out.get 1 rfl)) ?_
                have HE' : Env (putL X11 (w.heap.size + 1) 0 [.int .i64 (pq.1 % Wd), .int .i64 (pq.2 % Ht), .int .i64 ((4 - t) % 4), .bool false]) [⟨w.heap.size, 31, [.int .i64 x, .int .i64 y, .int .i64 t, .bool false]⟩, ⟨w.heap.size + 1, 31, [.int .i64 (pq.1 % Wd), .int .i64 (pq.2 % Ht), .int .i64 ((4 - t) % 4), .bool false]⟩, ⟨g8, 84, [.int .i64 Wd, .int .i64 Ht]⟩, ⟨g9, 31, [.int .i64 (pq.1 % Wd), .int .i64 (pq.2 % Ht), .int .i64 ((4 - t) % 4), .bool false]⟩] := HE.out.putF 1 rfl rfl
                have HB' := putL_below (show w.heap.size ≤ w.heap.size + 1 from by omega) [.int .i64 (pq.1 % Wd), .int .i64 (pq.2 % Ht), .int .i64 ((4 - t) % 4), .bool false] _ 0 HB.out
                generalize putL X11 (w.heap.size + 1) 0 [.int .i64 (pq.1 % Wd), .int .i64 (pq.2 % Ht), .int .i64 ((4 - t) % 4), .bool false] = X12 at *
                replace HE := Hd.mk HE'
                replace HB := Hd.mk HB'
                clear HE' HB'
                go_wp2_with fail
                have k0a := HE.out.cell 1 0 rfl rfl
                have k0b := HE.out.cell 1 1 rfl rfl
                have k0c := HE.out.cell 1 2 rfl rfl
                have k0d := HE.out.cell 1 3 rfl rfl
                refine bodyPost_ret (v := .tuple #[.agg #[.int .i64 (pq.1 % Wd), .int .i64 (pq.2 % Ht), .int .i64 ((4 - t) % 4), .bool false], .int .i64 0]) (by simp [results, Try.results24, go_sem, k0a, k0b, k0c, k0d]) rfl ?_
                exact ⟨_, rfl, HB.out, _, _, rfl, rfl, rfl⟩
set_option maxRecDepth 100000 in
set_option maxHeartbeats 1000000 in
theorem Inverse_no (Wd Ht x y t : Int) (f : Bool) (hn : (sizeB Wd Ht && alB Wd Ht x y t) = false) (w : World) :
    Calls Try.prog 24 #[.int .i64 Wd, .int .i64 Ht, .agg #[.int .i64 x, .int .i64 y, .int .i64 t, .bool f]] w (Got w (isP (isV (.agg #[.int .i64 0, .int .i64 0, .int .i64 0, .bool false])) (isV (.int .i64 2))).p) := by
  by_cases hs : sizeB Wd Ht = true
  · have h1 : alB Wd Ht x y t = false := by rw [hs] at hn; simpa using hn
    have HS := Hd.mk hs
    have H1 := Hd.mk h1
    clear hs h1 hn
    go_enter Try.func24, Try.ntmps24
    go_upto_region 1 with fail
    obtain ⟨W0, hW0⟩ : ∃ W : World, W = (w.alloc (.cells #[.int .i64 x, .int .i64 y, .int .i64 t, .bool f] 31)).alloc (.cells #[.int .i64 0, .int .i64 0, .int .i64 0, .bool false] 31) := ⟨_, rfl⟩
    rw [← hW0]
    obtain ⟨he, hb⟩ := env_two hW0
    have HE := Hd.mk he
    have HB := Hd.mk hb
    clear he hb hW0
    refine wp_region_vd 4 [12, 13, 14, 8] [0, 1, 2] [3] 84 [.int .i64 0, .int .i64 0] [isV (.int .i64 Wd), isV (.int .i64 Ht), isV (.agg #[.int .i64 Wd, .int .i64 Ht]), SP.any] (by rfl) alloc_Z ?_ ?_
    · intro qi qh qA aa wx hb hs hd
      match qi, qh, qA with
      | 0, _, _ => exact .inl ⟨rfl, op_mv rfl (hs 0 rfl)⟩
      | 1, _, _ => exact .inl ⟨rfl, op_mv rfl (hs 1 rfl)⟩
      | 2, _, _ => exact .inl ⟨rfl, ⟨_, op_buZ rfl (hd 0 rfl) (hd 1 rfl), rfl⟩⟩
      | 3, _, h => cases h
      | qi + 4, h, _ => omega
    · intro vs X1 hb hv hal hne
      have HL0 := Hd.mk (HE.out.lt)
      have HBW := HB
      replace HB := Hd.mk (bel_then HB.out hb)
      replace HE : Hd (Env X1 [⟨w.heap.size, 31, [.int .i64 x, .int .i64 y, .int .i64 t, .bool f]⟩, ⟨w.heap.size + 1, 31, [.int .i64 0, .int .i64 0, .int .i64 0, .bool false]⟩]) := ⟨HE.out.to hb⟩
      have HLS := HL0
      have e14 : vs 14 = .agg #[.int .i64 Wd, .int .i64 Ht] := hv 2 (by decide) rfl
      obtain ⟨g8, e8, l8, b8⟩ : ∃ g, vs 8 = .pointer (some ⟨g, 0, none⟩) ∧ _ := hal 3 rfl
      replace HE : Hd (Env X1 [⟨w.heap.size, 31, [.int .i64 x, .int .i64 y, .int .i64 t, .bool f]⟩, ⟨w.heap.size + 1, 31, [.int .i64 0, .int .i64 0, .int .i64 0, .bool false]⟩, ⟨g8, 84, [.int .i64 0, .int .i64 0]⟩]) := ⟨Env.addne (e := ⟨g8, 84, [.int .i64 0, .int .i64 0]⟩) HE.out b8 (fun e' he => Nat.ne_of_lt (Nat.lt_of_lt_of_le (HL0.out e' he) l8))⟩
      have G8 : Hd (w.heap.size ≤ g8) := ⟨Nat.le_trans HBW.out.size l8⟩
      simp only [putAll, List.foldl_cons, List.foldl_nil, Act.put, List.setIfInBounds_toArray, List.set_cons_succ, List.set_cons_zero, List.drop_succ_cons, List.drop_zero, e14, e8]
      generalize vs 12 = s12
      generalize vs 13 = s13
      clear hv hal hne hb HL0 HBW HLS e14 e8 l8 b8
      refine wpList_st rfl rfl rfl rfl rfl (sto_Z (HE.out.get 2 rfl)) ?_
      have HE' : Env (putL X1 g8 0 [.int .i64 Wd, .int .i64 Ht]) [⟨w.heap.size, 31, [.int .i64 x, .int .i64 y, .int .i64 t, .bool f]⟩, ⟨w.heap.size + 1, 31, [.int .i64 0, .int .i64 0, .int .i64 0, .bool false]⟩, ⟨g8, 84, [.int .i64 Wd, .int .i64 Ht]⟩] := HE.out.putF 2 rfl rfl
      have HB' := putL_below (show w.heap.size ≤ g8 from G8.out) [.int .i64 Wd, .int .i64 Ht] _ 0 HB.out
      generalize putL X1 g8 0 [.int .i64 Wd, .int .i64 Ht] = X2 at *
      replace HE := Hd.mk HE'
      replace HB := Hd.mk HB'
      clear HE' HB'
      go_upto_region 2 with fail
      refine wp_region_vd 9 [15, 16, 17, 18, 19, 20, 21, 22, 23] [2, 3, 7, 8] [] 84 [.int .i64 0, .int .i64 0] [isV (.agg #[.int .i64 Wd, .int .i64 Ht]), isV (.bool true), isV (.bool false), isV (.bool false), isV (.agg #[.int .i64 Wd, .int .i64 Ht]), isV (.agg #[.int .i64 x, .int .i64 y, .int .i64 t, .bool f]), isV (.bool false), isV (.bool true), isV (.bool true)] (by rfl) alloc_Z ?_ ?_
      · intro qi qh qA aa wx hb hs hd
        match qi, qh, qA with
        | 0, _, _ => exact .inl ⟨rfl, op_ldZ rfl rfl (hs 8 rfl) ((HE.out.to hb).get 2 rfl)⟩
        | 1, _, _ => exact .inl ⟨rfl, wp_b (bool_eq HS.out) (op_call1 rfl rfl Try.call53 (by rw [(show aa.eval (.tmp 15) = .agg #[.int .i64 Wd, .int .i64 Ht] from (hd 0 rfl))]; exact valid_got Wd Ht _))⟩
        | 2, _, _ => exact .inl ⟨rfl, ⟨_, op_not rfl (hd 1 rfl), rfl⟩⟩
        | 3, _, _ => exact .inl ⟨rfl, op_mv rfl (hd 2 rfl)⟩
        | 4, _, _ => exact .inl ⟨⟨rfl, .inl (hd 3 rfl)⟩, op_ldZ rfl rfl (hs 8 rfl) ((HE.out.to hb).get 2 rfl)⟩
        | 5, _, _ => exact .inl ⟨⟨rfl, .inl (hd 3 rfl)⟩, op_ldM rfl rfl (hs 5 rfl) ((HE.out.to hb).get 0 rfl)⟩
        | 6, _, _ => exact .inl ⟨⟨rfl, .inl (hd 3 rfl)⟩, wp_b (bool_eq H1.out) (op_call2 rfl rfl Try.call51 (by rw [(show aa.eval (.tmp 19) = .agg #[.int .i64 Wd, .int .i64 Ht] from (hd 4 rfl)), (show aa.eval (.tmp 20) = .agg #[.int .i64 x, .int .i64 y, .int .i64 t, .bool f] from (hd 5 rfl))]; exact allows_got Wd Ht x y t f _))⟩
        | 7, _, _ => exact .inl ⟨⟨rfl, .inl (hd 3 rfl)⟩, ⟨_, op_not rfl (hd 6 rfl), rfl⟩⟩
        | 8, _, _ => exact .inl ⟨rfl, ⟨_, op_pickF rfl (hd 3 rfl) (hd 7 rfl), rfl⟩⟩
        | qi + 9, h, _ => omega
      · intro vs X3 hb hv hal hne
        have HL0 := Hd.mk (HE.out.lt)
        have HBW := HB
        replace HB := Hd.mk (bel_then HB.out hb)
        replace HE : Hd (Env X3 [⟨w.heap.size, 31, [.int .i64 x, .int .i64 y, .int .i64 t, .bool f]⟩, ⟨w.heap.size + 1, 31, [.int .i64 0, .int .i64 0, .int .i64 0, .bool false]⟩, ⟨g8, 84, [.int .i64 Wd, .int .i64 Ht]⟩]) := ⟨HE.out.to hb⟩
        have HLS := HL0
        have e23 : vs 23 = .bool true := hv 8 (by decide) rfl
        simp only [putAll, List.foldl_cons, List.foldl_nil, Act.put, List.setIfInBounds_toArray, List.set_cons_succ, List.set_cons_zero, List.drop_succ_cons, List.drop_zero, e23]
        generalize vs 15 = s15
        generalize vs 16 = s16
        generalize vs 17 = s17
        generalize vs 18 = s18
        generalize vs 19 = s19
        generalize vs 20 = s20
        generalize vs 21 = s21
        generalize vs 22 = s22
        clear hv hal hne hb HL0 HBW HLS e23
        go_upto_region 3 with fail
        refine wp_region_vd 1 [24] [0] [] 84 [.int .i64 0, .int .i64 0] [isV (.agg #[.int .i64 0, .int .i64 0, .int .i64 0, .bool false])] (by rfl) alloc_Z ?_ ?_
        · intro qi qh qA aa wx hb hs hd
          match qi, qh, qA with
          | 0, _, _ => exact .inl ⟨rfl, ⟨_, op_b0M rfl, rfl⟩⟩
          | qi + 1, h, _ => omega
        · intro vs X4 hb hv hal hne
          have HL0 := Hd.mk (HE.out.lt)
          have HBW := HB
          replace HB := Hd.mk (bel_then HB.out hb)
          replace HE : Hd (Env X4 [⟨w.heap.size, 31, [.int .i64 x, .int .i64 y, .int .i64 t, .bool f]⟩, ⟨w.heap.size + 1, 31, [.int .i64 0, .int .i64 0, .int .i64 0, .bool false]⟩, ⟨g8, 84, [.int .i64 Wd, .int .i64 Ht]⟩]) := ⟨HE.out.to hb⟩
          have HLS := HL0
          have e24 : vs 24 = .agg #[.int .i64 0, .int .i64 0, .int .i64 0, .bool false] := hv 0 (by decide) rfl
          simp only [putAll, List.foldl_cons, List.foldl_nil, Act.put, List.setIfInBounds_toArray, List.set_cons_succ, List.set_cons_zero, List.drop_succ_cons, List.drop_zero, e24]
          clear hv hal hne hb HL0 HBW HLS e24
          refine wpList_st rfl rfl rfl rfl rfl (sto_M (HE.out.get 1 rfl)) ?_
          have HE' : Env (putL X4 (w.heap.size + 1) 0 [.int .i64 0, .int .i64 0, .int .i64 0, .bool false]) [⟨w.heap.size, 31, [.int .i64 x, .int .i64 y, .int .i64 t, .bool f]⟩, ⟨w.heap.size + 1, 31, [.int .i64 0, .int .i64 0, .int .i64 0, .bool false]⟩, ⟨g8, 84, [.int .i64 Wd, .int .i64 Ht]⟩] := HE.out.putF 1 rfl rfl
          have HB' := putL_below (show w.heap.size ≤ w.heap.size + 1 from by omega) [.int .i64 0, .int .i64 0, .int .i64 0, .bool false] _ 0 HB.out
          generalize putL X4 (w.heap.size + 1) 0 [.int .i64 0, .int .i64 0, .int .i64 0, .bool false] = X5 at *
          replace HE := Hd.mk HE'
          replace HB := Hd.mk HB'
          clear HE' HB'
          go_wp2_with fail
          have k0a := HE.out.cell 1 0 rfl rfl
          have k0b := HE.out.cell 1 1 rfl rfl
          have k0c := HE.out.cell 1 2 rfl rfl
          have k0d := HE.out.cell 1 3 rfl rfl
          refine bodyPost_ret (v := .tuple #[.agg #[.int .i64 0, .int .i64 0, .int .i64 0, .bool false], .int .i64 2]) (by simp [results, Try.results24, go_sem, k0a, k0b, k0c, k0d]) rfl ?_
          exact ⟨_, rfl, HB.out, _, _, rfl, rfl, rfl⟩
  · have hs' : sizeB Wd Ht = false := by simpa using hs
    have HS := Hd.mk hs'
    clear hs hs' hn
    go_enter Try.func24, Try.ntmps24
    go_upto_region 1 with fail
    obtain ⟨W0, hW0⟩ : ∃ W : World, W = (w.alloc (.cells #[.int .i64 x, .int .i64 y, .int .i64 t, .bool f] 31)).alloc (.cells #[.int .i64 0, .int .i64 0, .int .i64 0, .bool false] 31) := ⟨_, rfl⟩
    rw [← hW0]
    obtain ⟨he, hb⟩ := env_two hW0
    have HE := Hd.mk he
    have HB := Hd.mk hb
    clear he hb hW0
    refine wp_region_vd 4 [12, 13, 14, 8] [0, 1, 2] [3] 84 [.int .i64 0, .int .i64 0] [isV (.int .i64 Wd), isV (.int .i64 Ht), isV (.agg #[.int .i64 Wd, .int .i64 Ht]), SP.any] (by rfl) alloc_Z ?_ ?_
    · intro qi qh qA aa wx hb hs hd
      match qi, qh, qA with
      | 0, _, _ => exact .inl ⟨rfl, op_mv rfl (hs 0 rfl)⟩
      | 1, _, _ => exact .inl ⟨rfl, op_mv rfl (hs 1 rfl)⟩
      | 2, _, _ => exact .inl ⟨rfl, ⟨_, op_buZ rfl (hd 0 rfl) (hd 1 rfl), rfl⟩⟩
      | 3, _, h => cases h
      | qi + 4, h, _ => omega
    · intro vs X1 hb hv hal hne
      have HL0 := Hd.mk (HE.out.lt)
      have HBW := HB
      replace HB := Hd.mk (bel_then HB.out hb)
      replace HE : Hd (Env X1 [⟨w.heap.size, 31, [.int .i64 x, .int .i64 y, .int .i64 t, .bool f]⟩, ⟨w.heap.size + 1, 31, [.int .i64 0, .int .i64 0, .int .i64 0, .bool false]⟩]) := ⟨HE.out.to hb⟩
      have HLS := HL0
      have e14 : vs 14 = .agg #[.int .i64 Wd, .int .i64 Ht] := hv 2 (by decide) rfl
      obtain ⟨g8, e8, l8, b8⟩ : ∃ g, vs 8 = .pointer (some ⟨g, 0, none⟩) ∧ _ := hal 3 rfl
      replace HE : Hd (Env X1 [⟨w.heap.size, 31, [.int .i64 x, .int .i64 y, .int .i64 t, .bool f]⟩, ⟨w.heap.size + 1, 31, [.int .i64 0, .int .i64 0, .int .i64 0, .bool false]⟩, ⟨g8, 84, [.int .i64 0, .int .i64 0]⟩]) := ⟨Env.addne (e := ⟨g8, 84, [.int .i64 0, .int .i64 0]⟩) HE.out b8 (fun e' he => Nat.ne_of_lt (Nat.lt_of_lt_of_le (HL0.out e' he) l8))⟩
      have G8 : Hd (w.heap.size ≤ g8) := ⟨Nat.le_trans HBW.out.size l8⟩
      simp only [putAll, List.foldl_cons, List.foldl_nil, Act.put, List.setIfInBounds_toArray, List.set_cons_succ, List.set_cons_zero, List.drop_succ_cons, List.drop_zero, e14, e8]
      generalize vs 12 = s12
      generalize vs 13 = s13
      clear hv hal hne hb HL0 HBW HLS e14 e8 l8 b8
      refine wpList_st rfl rfl rfl rfl rfl (sto_Z (HE.out.get 2 rfl)) ?_
      have HE' : Env (putL X1 g8 0 [.int .i64 Wd, .int .i64 Ht]) [⟨w.heap.size, 31, [.int .i64 x, .int .i64 y, .int .i64 t, .bool f]⟩, ⟨w.heap.size + 1, 31, [.int .i64 0, .int .i64 0, .int .i64 0, .bool false]⟩, ⟨g8, 84, [.int .i64 Wd, .int .i64 Ht]⟩] := HE.out.putF 2 rfl rfl
      have HB' := putL_below (show w.heap.size ≤ g8 from G8.out) [.int .i64 Wd, .int .i64 Ht] _ 0 HB.out
      generalize putL X1 g8 0 [.int .i64 Wd, .int .i64 Ht] = X2 at *
      replace HE := Hd.mk HE'
      replace HB := Hd.mk HB'
      clear HE' HB'
      go_upto_region 2 with fail
      refine wp_region_vd 9 [15, 16, 17, 18, 19, 20, 21, 22, 23] [2, 3, 8] [] 84 [.int .i64 0, .int .i64 0] [isV (.agg #[.int .i64 Wd, .int .i64 Ht]), isV (.bool false), isV (.bool true), isV (.bool true), isV undef, isV undef, isV undef, isV undef, isV (.bool true)] (by rfl) alloc_Z ?_ ?_
      · intro qi qh qA aa wx hb hs hd
        match qi, qh, qA with
        | 0, _, _ => exact .inl ⟨rfl, op_ldZ rfl rfl (hs 8 rfl) ((HE.out.to hb).get 2 rfl)⟩
        | 1, _, _ => exact .inl ⟨rfl, wp_b (bool_eq HS.out) (op_call1 rfl rfl Try.call53 (by rw [(show aa.eval (.tmp 15) = .agg #[.int .i64 Wd, .int .i64 Ht] from (hd 0 rfl))]; exact valid_got Wd Ht _))⟩
        | 2, _, _ => exact .inl ⟨rfl, ⟨_, op_not rfl (hd 1 rfl), rfl⟩⟩
        | 3, _, _ => exact .inl ⟨rfl, op_mv rfl (hd 2 rfl)⟩
        | 4, _, _ => exact .inr ⟨⟨rfl, .inl (hd 3 rfl)⟩, rfl⟩
        | 5, _, _ => exact .inr ⟨⟨rfl, .inl (hd 3 rfl)⟩, rfl⟩
        | 6, _, _ => exact .inr ⟨⟨rfl, .inl (hd 3 rfl)⟩, rfl⟩
        | 7, _, _ => exact .inr ⟨⟨rfl, .inl (hd 3 rfl)⟩, rfl⟩
        | 8, _, _ => exact .inl ⟨rfl, ⟨_, op_pickT rfl (hd 3 rfl) rfl, rfl⟩⟩
        | qi + 9, h, _ => omega
      · intro vs X3 hb hv hal hne
        have HL0 := Hd.mk (HE.out.lt)
        have HBW := HB
        replace HB := Hd.mk (bel_then HB.out hb)
        replace HE : Hd (Env X3 [⟨w.heap.size, 31, [.int .i64 x, .int .i64 y, .int .i64 t, .bool f]⟩, ⟨w.heap.size + 1, 31, [.int .i64 0, .int .i64 0, .int .i64 0, .bool false]⟩, ⟨g8, 84, [.int .i64 Wd, .int .i64 Ht]⟩]) := ⟨HE.out.to hb⟩
        have HLS := HL0
        have e23 : vs 23 = .bool true := hv 8 (by decide) rfl
        simp only [putAll, List.foldl_cons, List.foldl_nil, Act.put, List.setIfInBounds_toArray, List.set_cons_succ, List.set_cons_zero, List.drop_succ_cons, List.drop_zero, e23]
        generalize vs 15 = s15
        generalize vs 16 = s16
        generalize vs 17 = s17
        generalize vs 18 = s18
        generalize vs 19 = s19
        generalize vs 20 = s20
        generalize vs 21 = s21
        generalize vs 22 = s22
        clear hv hal hne hb HL0 HBW HLS e23
        go_upto_region 3 with fail
        refine wp_region_vd 1 [24] [0] [] 84 [.int .i64 0, .int .i64 0] [isV (.agg #[.int .i64 0, .int .i64 0, .int .i64 0, .bool false])] (by rfl) alloc_Z ?_ ?_
        · intro qi qh qA aa wx hb hs hd
          match qi, qh, qA with
          | 0, _, _ => exact .inl ⟨rfl, ⟨_, op_b0M rfl, rfl⟩⟩
          | qi + 1, h, _ => omega
        · intro vs X4 hb hv hal hne
          have HL0 := Hd.mk (HE.out.lt)
          have HBW := HB
          replace HB := Hd.mk (bel_then HB.out hb)
          replace HE : Hd (Env X4 [⟨w.heap.size, 31, [.int .i64 x, .int .i64 y, .int .i64 t, .bool f]⟩, ⟨w.heap.size + 1, 31, [.int .i64 0, .int .i64 0, .int .i64 0, .bool false]⟩, ⟨g8, 84, [.int .i64 Wd, .int .i64 Ht]⟩]) := ⟨HE.out.to hb⟩
          have HLS := HL0
          have e24 : vs 24 = .agg #[.int .i64 0, .int .i64 0, .int .i64 0, .bool false] := hv 0 (by decide) rfl
          simp only [putAll, List.foldl_cons, List.foldl_nil, Act.put, List.setIfInBounds_toArray, List.set_cons_succ, List.set_cons_zero, List.drop_succ_cons, List.drop_zero, e24]
          clear hv hal hne hb HL0 HBW HLS e24
          refine wpList_st rfl rfl rfl rfl rfl (sto_M (HE.out.get 1 rfl)) ?_
          have HE' : Env (putL X4 (w.heap.size + 1) 0 [.int .i64 0, .int .i64 0, .int .i64 0, .bool false]) [⟨w.heap.size, 31, [.int .i64 x, .int .i64 y, .int .i64 t, .bool f]⟩, ⟨w.heap.size + 1, 31, [.int .i64 0, .int .i64 0, .int .i64 0, .bool false]⟩, ⟨g8, 84, [.int .i64 Wd, .int .i64 Ht]⟩] := HE.out.putF 1 rfl rfl
          have HB' := putL_below (show w.heap.size ≤ w.heap.size + 1 from by omega) [.int .i64 0, .int .i64 0, .int .i64 0, .bool false] _ 0 HB.out
          generalize putL X4 (w.heap.size + 1) 0 [.int .i64 0, .int .i64 0, .int .i64 0, .bool false] = X5 at *
          replace HE := Hd.mk HE'
          replace HB := Hd.mk HB'
          clear HE' HB'
          go_wp2_with fail
          have k0a := HE.out.cell 1 0 rfl rfl
          have k0b := HE.out.cell 1 1 rfl rfl
          have k0c := HE.out.cell 1 2 rfl rfl
          have k0d := HE.out.cell 1 3 rfl rfl
          refine bodyPost_ret (v := .tuple #[.agg #[.int .i64 0, .int .i64 0, .int .i64 0, .bool false], .int .i64 2]) (by simp [results, Try.results24, go_sem, k0a, k0b, k0c, k0d]) rfl ?_
          exact ⟨_, rfl, HB.out, _, _, rfl, rfl, rfl⟩
end Go.Proofs.Ytddbmckbankmeaa
