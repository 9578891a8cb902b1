/- Part 16 of the texts behind this claim. -/
import Derived.Test.YtddbmckbankmeaaKm12
import Derived.Test.YtddbmckbankmeaaKm15
set_option linter.unusedVariables false
set_option linter.unusedSimpArgs false
namespace Go.Proofs.Ytddbmckbankmeaa
open Go.RowKit
section
variable {w w' : World} {lo b n k : Nat} {v : Value} {ms ms' : List Mv} {A : Option Addr}
theorem ownM_rd (h : OwnM lo w (.slice A n k) ms) : RdM w A ms := by
  obtain ⟨A', k', e, r, _⟩ := row_reads h
  cases e
  exact r
theorem got_rdM {f : Nat} {vs : Array Value} (hc : Calls Try.prog f vs w (Got w (isMs lo ms).p)) : Calls Try.prog f vs w (Got w (isRd 26 ms).p) := hc.mono fun e w' ⟨v, h1, h2, h3⟩ => ⟨v, h1, h2, row_rdT h3⟩
theorem blk_rowM {g : Nat} {t : TypeId} {us : List Value} (hb : Blk w g t us) (h : OwnM lo w v ms) (ht : t ≠ 26 ∨ ∀ k, v.ownBlock = some k → k < g) : some g ≠ v.ownBlock := fun e => by
  rcases ht with ht | ht
  · rcases h.2 with ⟨rfl, _⟩ | ⟨g', cap, cur, rfl, _, hgb, _⟩
    · cases e
    obtain rfl : g = g' := by simpa [Value.ownBlock] using e
    have := (show w.heap[g]? = _ from hb).symm.trans hgb
    simp at this
    exact ht this.2
  have := ht g e.symm
  omega
theorem bb_own {g : Nat} {bs : List Bool} (hm : BB w g bs) (hg : w.grownBy w' v.ownBlock) (h : OwnM lo w v ms) : BB w' g bs := by
  obtain ⟨rest, hb⟩ := hm
  exact ⟨rest, (hg.block g hb.lt (blk_rowM hb h (.inl (by decide)))).trans hb⟩
theorem ownM_bb {g j : Nat} {bs : List Bool} {c : Bool} (h : OwnM lo w v ms) (hm : BB w g bs) : OwnM lo (putL w g j [.bool c]) v ms := by
  obtain ⟨rest, hb⟩ := hm
  exact World.ownsRow.kept h (putL_by _ w j) (.inr fun e => blk_rowM hb h (.inl (by decide)) e.symm)
end
section
variable {Q : Exit → Act → World → Prop} {o : Oper} {a : Act} {w : World} {d lo : Nat} {x : Operand} {m : Mv}
theorem op_rowN1 (ho : o.op = .buildSlice 51 1 #[(0, x)]) (hd : o.dst = some d) (hx : a.eval x = .agg #[.int .i64 m.x, .int .i64 m.y, .int .i64 m.t, .bool m.f]) (hl : lo ≤ w.heap.size) : o.wp Try.prog a w (Post a w d (isMs lo [m]).p) Q := by
  have key : (execOp a.eval o).run Try.prog w = .ok (.value (.slice (some ⟨w.heap.size, 0, none⟩) 1 1)) (w.alloc (.cells #[.int .i64 m.x, .int .i64 m.y, .int .i64 m.t, .bool m.f] 26)) := by
    generalize a.eval = ev at hx ⊢
    unfold execOp
    simp only [ho]
    simp [go_sem, hx]
  unfold Oper.wp
  rw [key]
  simp only [Oper.upon, hd]
  exact ⟨_, rfl, below_alloc (Below.refl _ _) _, by simp [mcells], .inr ⟨w.heap.size, 1, _, rfl, hl, heap_alloc_new w _, Nat.le_refl _, by unfold maxLen; omega, rfl, rfl⟩⟩
end
theorem inB_one {W H : Nat} (hs : sizeB W H = true) : InB W H ((List.replicate (8 * (W : Int) * (H : Int)).toNat false).set 0 true) [⟨0, 0, 0, false⟩] := by
  have h := inB_set (inB_nil W H) (zero_al hs)
  rwa [show numM W H ⟨0, 0, 0, false⟩ = 0 by simp [numM]] at h
theorem filt_hit {l : List Mv} {q : Mv → Bool} {j : Nat} {x : Mv} (hx : l[j]? = some x) (h : q x = true) : (l.take (j + 1)).filter q = (l.take j).filter q ++ [x] := by
  rw [List.take_add_one, hx, List.filter_append]
  simp [h]
theorem filt_miss {l : List Mv} {q : Mv → Bool} {j : Nat} {x : Mv} (hx : l[j]? = some x) (h : q x = false) : (l.take (j + 1)).filter q = (l.take j).filter q := by
  rw [List.take_add_one, hx, List.filter_append]
  simp [h]
set_option maxRecDepth 100000 in
set_option maxHeartbeats 1000000 in
theorem rClose_got (Wn Hn : Nat) (A : Option Addr) (k : Nat) (l : List Mv) (w : World) (hrm : RdM w A l) (hll : l.length ≤ 521) (hs : sizeB Wn Hn = true) (hal : ∀ m ∈ l, Al Wn Hn m) :
    Calls Try.prog 42 #[.int .i64 (((Wn : Nat) : Int)), .int .i64 (((Hn : Nat) : Int)), .slice A l.length k] w (Got w (isMs w.heap.size (closeL Wn Hn l)).p) := by
  have hwh := sizeB_bounds hs
  have HWn : Hd (1 ≤ Wn ∧ Wn ≤ 8) := ⟨by omega⟩
  have HHn : Hd (1 ≤ Hn ∧ Hn ≤ 8) := ⟨by omega⟩
  have b2 := mul_b (a := 8 * (Wn : Int)) (b := (Hn : Int)) (A := 64) (B := 8) (by omega) (by omega)
  have b3 : 8 ≤ 8 * (Wn : Int) * (Hn : Int) := by have : 8 * 1 ≤ 8 * (Wn : Int) * (Hn : Int) := Int.mul_le_mul (by omega) (by omega) (by omega) (by omega); omega
  have HINB := Hd.mk (inB_one hs)
  have HZ := Hd.mk (zero_al hs)
  have HAL := Hd.mk hal
  have HRM := Hd.mk hrm
  have HS := Hd.mk hs
  clear hal hrm hs
  go_enter Try.func42, Try.ntmps42
  go_upto_region 1 with fail
  have HE : Hd (Env w []) := ⟨trivial⟩
  have HB : Hd (Below w.heap.size w w) := ⟨Below.refl _ _⟩
  refine wp_region_vd 5 [16, 17, 18, 19, 20] [0, 1, 2, 3] [] 84 [.int .i64 0, .int .i64 0] [isV (.int .i64 (((Wn : Nat) : Int))), isV (.int .i64 (8 * (((Wn : Nat) : Int)))), isV (.int .i64 (((Hn : Nat) : Int))), isV (.int .i64 ((((8 * ((Wn : Nat) : Int) * ((Hn : Nat) : Int)).toNat : Nat) : Int))), isBs w.heap.size (List.replicate ((8 * ((Wn : Nat) : Int) * ((Hn : Nat) : Int)).toNat) false)] (by rfl) alloc_Z ?_ ?_
  · intro qi qh qA aa wx hb hs hd
    match qi, qh, qA with
    | 0, _, _ => exact .inl ⟨rfl, op_mv rfl (hs 0 rfl)⟩
    | 1, _, _ => exact .inl ⟨rfl, ⟨_, op_mul (by unfold Fit; omega) rfl rfl (hd 0 rfl), rfl⟩⟩
    | 2, _, _ => exact .inl ⟨rfl, op_mv rfl (hs 1 rfl)⟩
    | 3, _, _ => exact .inl ⟨rfl, pure_b (int_eq (by omega)) (⟨_, op_mul (by unfold Fit; omega) rfl (hd 1 rfl) (hd 2 rfl), rfl⟩)⟩
    | 4, _, _ => exact .inl ⟨rfl, op_makeB (by omega) rfl rfl (hd 3 rfl) (hd 3 rfl) _ (Nat.le_trans HB.out.size hb.size)⟩
    | qi + 5, h, _ => omega
  intro vs X1 hb hv hal hne
  replace HB := Hd.mk (bel_then HB.out hb)
  replace HE := Hd.mk (HE.out.to hb)
  obtain ⟨gI, e20, lbI, hbI⟩ : ∃ g, vs 20 = .slice (some ⟨g, 0, none⟩) (List.replicate ((8 * ((Wn : Nat) : Int) * ((Hn : Nat) : Int)).toNat) false).length (List.replicate ((8 * ((Wn : Nat) : Int) * ((Hn : Nat) : Int)).toNat) false).length ∧ w.heap.size ≤ g ∧ BB X1 g (List.replicate ((8 * ((Wn : Nat) : Int) * ((Hn : Nat) : Int)).toNat) false) := hv 4 (by decide) rfl
  rw [List.length_replicate] at e20
  have HM := Hd.mk hbI
  have HGI := Hd.mk lbI
  clear hbI lbI
  simp only [PA, e20]
  clear hv hal hne hb e20
  skip
  go_upto_region 2 with fail
  refine wp_region_vd 2 [21, 22] [0] [] 84 [.int .i64 0, .int .i64 0] [isV (.slice (some ⟨gI, 0, none⟩) ((8 * ((Wn : Nat) : Int) * ((Hn : Nat) : Int)).toNat) ((8 * ((Wn : Nat) : Int) * ((Hn : Nat) : Int)).toNat)), isV (.pointer (some (⟨gI, 0, none⟩)))] (by rfl) alloc_Z ?_ ?_
  · intro qi qh qA aa wx hb hs hd
    match qi, qh, qA with
    | 0, _, _ => exact .inl ⟨rfl, op_mv rfl (hs 7 rfl)⟩
    | 1, _, _ => exact .inl ⟨rfl, op_run rfl (op_idxB (i := 0) (by omega) (by omega) rfl (hd 0 rfl) rfl _) rfl⟩
    | qi + 2, h, _ => omega
  intro vs X2 hb hv hal hne
  replace HB := Hd.mk (bel_then HB.out hb)
  replace HE := Hd.mk (HE.out.to hb)
  have HML := Hd.mk HM.out.lt
  replace HM := Hd.mk (HM.out.to hb)
  have e22 : vs 22 = .pointer (some (⟨gI, 0, none⟩)) := hv 1 (by decide) rfl
  simp only [PA, e22]
  clear hv hal hne hb e22 HML
  have hlt9 : 0 < (List.replicate (8 * ((Wn : Nat) : Int) * ((Hn : Nat) : Int)).toNat false).length := by rw [List.length_replicate]; omega
  refine wpList_st rfl rfl rfl rfl rfl (sto_BB (b := true) HM.out hlt9) ?_
  have HM1 := BB.set (b := true) HM.out hlt9
  have HB1 := putL_below (show w.heap.size ≤ gI from HGI.out) [.bool true] _ 0 HB.out
  generalize putL X2 gI 0 [.bool true] = XS at *
  replace HM := Hd.mk HM1
  replace HB := Hd.mk HB1
  clear HM1 HB1 HE
  have HE : Hd (Env XS []) := ⟨trivial⟩
  have HLX : Hd (w.heap.size ≤ XS.heap.size) := ⟨HB.out.size⟩
  go_upto_region 3 with fail
  refine wp_region_vd 2 [23, 24] [0] [] 84 [.int .i64 0, .int .i64 0] [isV (.agg #[.int .i64 0, .int .i64 0, .int .i64 0, .bool false]), isMs XS.heap.size ([⟨0, 0, 0, false⟩])] (by rfl) alloc_Z ?_ ?_
  · intro qi qh qA aa wx hb hs hd
    match qi, qh, qA with
    | 0, _, _ => exact .inl ⟨rfl, ⟨_, op_b0N rfl, rfl⟩⟩
    | 1, _, _ => exact .inl ⟨rfl, op_rowN1 (lo := XS.heap.size) (m := ⟨0, 0, 0, false⟩) rfl rfl (hd 0 rfl) hb.size⟩
    | qi + 2, h, _ => omega
  intro vs X3 hb hv hal hne
  replace HB := Hd.mk (bel_then HB.out hb)
  replace HE := Hd.mk (HE.out.to hb)
  have HML := Hd.mk HM.out.lt
  replace HM := Hd.mk (HM.out.to hb)
  obtain ⟨v8, e24⟩ : ∃ v, vs 24 = v := ⟨_, rfl⟩
  have HO : Hd (OwnM XS.heap.size X3 v8 ([⟨0, 0, 0, false⟩])) := ⟨by rw [← e24]; exact hv 1 (by decide) rfl⟩
  simp only [PA, e24]
  clear hv hal hne hb e24 HML
  replace HO := Hd.mk (HO.out.lower HLX.out)
  go_upto_region 4 with fail
  refine wp_region_vd 0 [] [] [] 84 [.int .i64 0, .int .i64 0] [] (by rfl) alloc_Z ?_ ?_
  · intro qi qh qA aa wx hb hs hd
    match qi, qh, qA with
    | qi + 0, h, _ => omega
  intro vs X4 hb hv hal hne
  replace HB := Hd.mk (bel_then HB.out hb)
  replace HE := Hd.mk (HE.out.to hb)
  have HML := Hd.mk HM.out.lt
  replace HM := Hd.mk (HM.out.to hb)
  have HOL := Hd.mk HO.out.lt
  replace HO := Hd.mk (HO.out.to hb)
  simp only [PA]
  clear hv hal hne hb HML HOL
  have HM0 : Hd (∃ bs, BB X4 gI bs ∧ InB Wn Hn bs [⟨0, 0, 0, false⟩]) := ⟨_, HM.out, HINB.out⟩
  go_wp2_with fail
  go_loopw [8, 9] (fun s8 s9 wr => ∃ (i : Nat) (o : List Mv), Bfs Wn Hn l i o ∧ s9 = .int .i64 i ∧ OwnM w.heap.size wr s8 o ∧ (∃ bs, BB wr gI bs ∧ InB Wn Hn bs o) ∧ Below w.heap.size w wr) (fun _ s9 _ => 513 - (intOf s9).toNat)
  case atStart => exact ⟨0, _, Bfs.start, rfl, HO.out, HM0.out, HB.out⟩
  case round =>
    obtain ⟨i, o, hbf, rfl, ho, ⟨bs, hm, hin⟩, hb⟩ := hrel
    clear HB HE HO HM HM0
    obtain ⟨A9, k9, rfl, _⟩ := row_reads ho
    have HB := Hd.mk hb
    have HO := Hd.mk ho
    have HM := Hd.mk hm
    have HIN := Hd.mk hin
    have HE : Hd (Env wr []) := ⟨trivial⟩
    have HBF := Hd.mk hbf
    have HOK := Hd.mk (hbf.ok HZ.out HAL.out)
    have h512 := HOK.out.few HS.out
    have hio := hbf.le
    clear ho hm hb hbf hin
    by_cases hi : i < o.length
    · obtain ⟨x, hx⟩ : ∃ x, o[i]? = some x := ⟨_, List.getElem?_eq_getElem hi⟩
      have HX := Hd.mk hx
      have HAX := Hd.mk (HOK.out.al x (List.mem_of_getElem? hx))
      clear hx
      go_upto_region 5 with fail
      refine wp_region_vd 4 [25, 26, 27, 28] [0, 1, 3] [] 84 [.int .i64 0, .int .i64 0] [isV (.int .i64 (((i : Nat) : Int))), isV (.slice A9 o.length k9), isV (.int .i64 (((o.length : Nat) : Int))), isV (.bool true)] (by rfl) alloc_Z ?_ ?_
      · intro qi qh qA aa wx hb hs hd
        match qi, qh, qA with
        | 0, _, _ => exact .inl ⟨rfl, op_mv rfl (hs 9 rfl)⟩
        | 1, _, _ => exact .inl ⟨rfl, op_mv rfl (hs 8 rfl)⟩
        | 2, _, _ => exact .inl ⟨rfl, op_lenvVN rfl rfl (hd 1 rfl)⟩
        | 3, _, _ => exact .inl ⟨rfl, pure_b (bool_eq (decide_eq_true (by omega))) (⟨_, op_lssI rfl (hd 0 rfl) (hd 2 rfl), rfl⟩)⟩
        | qi + 4, h, _ => omega
      intro vs X1 hb hv hal hne
      replace HB := Hd.mk (bel_then HB.out hb)
      replace HE := Hd.mk (HE.out.to hb)
      have HML := Hd.mk HM.out.lt
      replace HM := Hd.mk (HM.out.to hb)
      have HOL := Hd.mk HO.out.lt
      replace HO := Hd.mk (HO.out.to hb)
      have e28 : vs 28 = .bool true := hv 3 (by decide) rfl
      simp only [PA, e28]
      clear hv hal hne hb e28 HML HOL
      go_upto_region 7 with fail
      refine wp_region_vd 3 [31, 32, 33] [0, 2] [] 84 [.int .i64 0, .int .i64 0] [isV (.slice A l.length k), isV (.int .i64 (((l.length : Nat) : Int))), isV (.int .i64 0)] (by rfl) alloc_Z ?_ ?_
      · intro qi qh qA aa wx hb hs hd
        match qi, qh, qA with
        | 0, _, _ => exact .inl ⟨rfl, op_mv rfl (hs 2 rfl)⟩
        | 1, _, _ => exact .inl ⟨rfl, op_lenvVN rfl rfl (hd 0 rfl)⟩
        | 2, _, _ => exact .inl ⟨rfl, op_mv rfl rfl⟩
        | qi + 3, h, _ => omega
      intro vs X2 hb hv hal hne
      replace HB := Hd.mk (bel_then HB.out hb)
      replace HE := Hd.mk (HE.out.to hb)
      have HML := Hd.mk HM.out.lt
      replace HM := Hd.mk (HM.out.to hb)
      have HOL := Hd.mk HO.out.lt
      replace HO := Hd.mk (HO.out.to hb)
      have e31 : vs 31 = .slice A l.length k := hv 0 (by decide) rfl
      have e32 : vs 32 = .int .i64 (((l.length : Nat) : Int)) := hv 1 (by decide) rfl
      have e33 : vs 33 = .int .i64 0 := hv 2 (by decide) rfl
      simp only [PA, e31, e32, e33]
      clear hv hal hne hb e31 e32 e33 HML HOL
      have HM0 : Hd (∃ bs, BB X2 gI bs ∧ InB Wn Hn bs (innB Wn Hn x (l.take 0) o)) := ⟨bs, HM.out, by rw [inn_zero]; exact HIN.out⟩
      clear HIN
      go_wp2_with fail
      go_loopw [8, 33] (fun s8 s33 wr => ∃ j : Nat, j ≤ l.length ∧ s33 = .int .i64 j ∧ OwnM w.heap.size wr s8 (innB Wn Hn x (l.take j) o) ∧ (∃ bs, BB wr gI bs ∧ InB Wn Hn bs (innB Wn Hn x (l.take j) o)) ∧ Below w.heap.size w wr) (fun _ s33 _ => l.length - (intOf s33).toNat)
      case atStart => exact ⟨0, Nat.zero_le _, rfl, by rw [inn_zero]; exact HO.out, HM0.out, HB.out⟩
      case round =>
        obtain ⟨j, hjl, rfl, ho, ⟨bs2, hm, hin⟩, hb⟩ := hrel
        clear HB HE HO HM HM0
        obtain ⟨A8, k8, rfl, _⟩ := row_reads ho
        have HB := Hd.mk hb
        have HO := Hd.mk ho
        have HM := Hd.mk hm
        have HIN := Hd.mk hin
        have HE : Hd (Env wr []) := ⟨trivial⟩
        clear ho hm hb hin
        by_cases hj : j < l.length
        · obtain ⟨m, hm⟩ : ∃ m, l[j]? = some m := ⟨_, List.getElem?_eq_getElem hj⟩
          obtain ⟨ad, rfl⟩ := HRM.out.some_ hm
          have HMJ := Hd.mk hm
          have HAM := Hd.mk (HAL.out m (List.mem_of_getElem? hm))
          have HOK2 := Hd.mk (HOK.out.take HAX.out HAL.out j)
          have h5122 := HOK2.out.few HS.out
          have hpr : (innB Wn Hn x (l.take j) o)[i]? = some x := by
            obtain ⟨t, e⟩ := inn_pre (W := Wn) (H := Hn) x (l.take j) o
            rw [← e, List.getElem?_append_left hi]
            exact HX.out
          have hi2 := (List.getElem?_eq_some_iff.1 hpr).1
          obtain ⟨a8, rfl⟩ := (ownM_rd HO.out).some_ hpr
          have HPR := Hd.mk hpr
          have HCI := Hd.mk (inn_succ (W := Wn) (H := Hn) (x := x) (o := o) hm)
          have HNA := Hd.mk (aft_al HAM.out HAX.out)
          have hnl := num_lt HNA.out
          clear hm hpr
          generalize hcur : innB Wn Hn x (l.take j) o = cur at *
          go_upto_region 9 with fail
          refine wp_region_vd 3 [35, 36, 11] [] [2] 26 [.int .i64 0, .int .i64 0, .int .i64 0, .bool false] [isV (.pointer (some (ad.add (j * 4)))), isV (.agg #[.int .i64 m.x, .int .i64 m.y, .int .i64 m.t, .bool m.f]), SP.any] (by rfl) alloc_N ?_ ?_
          · intro qi qh qA aa wx hb hs hd
            match qi, qh, qA with
            | 0, _, _ => exact .inl ⟨rfl, op_run rfl (op_idxVN hj rfl (hs 31 rfl) (hs 33 rfl) _) rfl⟩
            | 1, _, _ => exact .inl ⟨rfl, op_ldvVN rfl rfl (hd 0 rfl) ((HRM.out.to (bel_then HB.out hb)).at_ HMJ.out)⟩
            | 2, _, h => cases h
            | qi + 3, h, _ => omega
          intro vs X1 hb hv hal hne
          have HL0 := Hd.mk (HE.out.lt)
          have HBW := HB
          replace HB := Hd.mk (bel_then HB.out hb)
          replace HE := Hd.mk (HE.out.to hb)
          have HML := Hd.mk HM.out.lt
          replace HM := Hd.mk (HM.out.to hb)
          have HOL := Hd.mk HO.out.lt
          replace HO := Hd.mk (HO.out.to hb)
          have e36 : vs 36 = .agg #[.int .i64 m.x, .int .i64 m.y, .int .i64 m.t, .bool m.f] := hv 1 (by decide) rfl
          obtain ⟨g11, e11, l11, b11⟩ : ∃ g, vs 11 = .pointer (some ⟨g, 0, none⟩) ∧ _ := hal 2 rfl
          replace HE : Hd (Env X1 [⟨g11, 26, [.int .i64 0, .int .i64 0, .int .i64 0, .bool false]⟩]) := ⟨Env.addne (e := ⟨g11, 26, [.int .i64 0, .int .i64 0, .int .i64 0, .bool false]⟩) HE.out b11 (fun e' he => Nat.ne_of_lt (Nat.lt_of_lt_of_le (HL0.out e' he) l11))⟩
          have HMG11 : Hd (gI < g11) := ⟨Nat.lt_of_lt_of_le HML.out l11⟩
          have HOG11 : Hd (∀ k, (Value.slice (some a8) cur.length k8).ownBlock = some k → k < g11) := ⟨fun k hk => Nat.lt_of_lt_of_le (HOL.out k hk).2 l11⟩
          have G11 : Hd (w.heap.size ≤ g11) := ⟨Nat.le_trans HBW.out.size l11⟩
          simp only [PA, e36, e11]
          clear hv hal hne hb HL0 HBW e36 e11 l11 b11 HML HOL
          refine wpList_st rfl rfl rfl rfl rfl (sto_N (HE.out.get 0 rfl)) ?_
          have HE' : Env (putL X1 g11 0 [.int .i64 m.x, .int .i64 m.y, .int .i64 m.t, .bool m.f]) [⟨g11, 26, [.int .i64 m.x, .int .i64 m.y, .int .i64 m.t, .bool m.f]⟩] := HE.out.putF 0 rfl rfl
          have HB' := putL_below (show w.heap.size ≤ g11 from G11.out) [.int .i64 m.x, .int .i64 m.y, .int .i64 m.t, .bool m.f] _ 0 HB.out
          replace HM := Hd.mk (HM.out.put (vs := [.int .i64 m.x, .int .i64 m.y, .int .i64 m.t, .bool m.f]) (o := 0) HMG11.out)
          replace HO := Hd.mk (HO.out.put (vs := [.int .i64 m.x, .int .i64 m.y, .int .i64 m.t, .bool m.f]) (o := 0) HOG11.out)
          generalize putL X1 g11 0 [.int .i64 m.x, .int .i64 m.y, .int .i64 m.t, .bool m.f] = X2 at *
          replace HE := Hd.mk HE'
          replace HB := Hd.mk HB'
          clear HE' HB'
          go_upto_region 10 with fail
          refine wp_region_vs 9 [37, 38, 39, 40, 41, 42, 43, 44, 12] [0, 1, 3, 4] [8] 26 [.int .i64 0, .int .i64 0, .int .i64 0, .bool false] [isV (.int .i64 (((Wn : Nat) : Int))), isV (.int .i64 (((Hn : Nat) : Int))), isV (.agg #[.int .i64 m.x, .int .i64 m.y, .int .i64 m.t, .bool m.f]), isV (.slice (some a8) cur.length k8), isV (.int .i64 (((i : Nat) : Int))), isV (.pointer (some (a8.add (i * 4)))), isV (.agg #[.int .i64 x.x, .int .i64 x.y, .int .i64 x.t, .bool x.f]), isV (.agg #[.int .i64 ((aftM Wn Hn m x).x), .int .i64 ((aftM Wn Hn m x).y), .int .i64 ((aftM Wn Hn m x).t), .bool ((aftM Wn Hn m x).f)]), SP.any] (by kernel_rfl) (by kernel_rfl) (by kernel_rfl) (by rfl) alloc_N (fun d v c a w h => by cases d <;> exact h) ?_ ?_
          · intro qi qh qA aa wx hb hs hd
            match qi, qh, qA with
            | 0, _, _ => exact op_mv rfl (hs 0 rfl)
            | 1, _, _ => exact op_mv rfl (hs 1 rfl)
            | 2, _, _ => exact op_ldN rfl rfl (hs 11 rfl) ((HE.out.to hb).get 0 rfl)
            | 3, _, _ => exact op_mv rfl (hs 8 rfl)
            | 4, _, _ => exact op_mv rfl (hs 9 rfl)
            | 5, _, _ => exact op_run rfl (op_idxVN hi2 rfl (hd 3 rfl) (hd 4 rfl) _) rfl
            | 6, _, _ => exact op_ldvVN rfl rfl (hd 5 rfl) ((ownM_rd (HO.out.to hb)).at_ HPR.out)
            | 7, _, _ => exact op_call4 rfl rfl Try.call28 (by rw [(show aa.eval (.tmp 37) = .int .i64 (((Wn : Nat) : Int)) from (hd 0 rfl)), (show aa.eval (.tmp 38) = .int .i64 (((Hn : Nat) : Int)) from (hd 1 rfl)), (show aa.eval (.tmp 39) = .agg #[.int .i64 m.x, .int .i64 m.y, .int .i64 m.t, .bool m.f] from (hd 2 rfl)), (show aa.eval (.tmp 43) = .agg #[.int .i64 x.x, .int .i64 x.y, .int .i64 x.t, .bool x.f] from (hd 6 rfl))]; exact rAfter_got HAM.out HAX.out _)
            | 8, _, h => cases h
            | qi + 9, h, _ => omega
          intro vs X3 hb hv hal hne
          have HL0 := Hd.mk (HE.out.lt)
          have HBW := HB
          replace HB := Hd.mk (bel_then HB.out hb)
          replace HE := Hd.mk (HE.out.to hb)
          have HML := Hd.mk HM.out.lt
          replace HM := Hd.mk (HM.out.to hb)
          have HOL := Hd.mk HO.out.lt
          replace HO := Hd.mk (HO.out.to hb)
          have e44 : vs 44 = .agg #[.int .i64 ((aftM Wn Hn m x).x), .int .i64 ((aftM Wn Hn m x).y), .int .i64 ((aftM Wn Hn m x).t), .bool ((aftM Wn Hn m x).f)] := hv 7 (by decide) rfl
          obtain ⟨g12, e12, l12, b12⟩ : ∃ g, vs 12 = .pointer (some ⟨g, 0, none⟩) ∧ _ := hal 8 rfl
          replace HE : Hd (Env X3 [⟨g11, 26, [.int .i64 m.x, .int .i64 m.y, .int .i64 m.t, .bool m.f]⟩, ⟨g12, 26, [.int .i64 0, .int .i64 0, .int .i64 0, .bool false]⟩]) := ⟨Env.addne (e := ⟨g12, 26, [.int .i64 0, .int .i64 0, .int .i64 0, .bool false]⟩) HE.out b12 (fun e' he => Nat.ne_of_lt (Nat.lt_of_lt_of_le (HL0.out e' he) l12))⟩
          have HMG12 : Hd (gI < g12) := ⟨Nat.lt_of_lt_of_le HML.out l12⟩
          have HOG12 : Hd (∀ k, (Value.slice (some a8) cur.length k8).ownBlock = some k → k < g12) := ⟨fun k hk => Nat.lt_of_lt_of_le (HOL.out k hk).2 l12⟩
          have G12 : Hd (w.heap.size ≤ g12) := ⟨Nat.le_trans HBW.out.size l12⟩
          simp only [PA, e44, e12]
          clear hv hal hne hb HL0 HBW e44 e12 l12 b12 HML HOL
          refine wpList_st rfl rfl rfl rfl rfl (sto_N (HE.out.get 1 rfl)) ?_
          have HE' : Env (putL X3 g12 0 [.int .i64 ((aftM Wn Hn m x).x), .int .i64 ((aftM Wn Hn m x).y), .int .i64 ((aftM Wn Hn m x).t), .bool ((aftM Wn Hn m x).f)]) [⟨g11, 26, [.int .i64 m.x, .int .i64 m.y, .int .i64 m.t, .bool m.f]⟩, ⟨g12, 26, [.int .i64 ((aftM Wn Hn m x).x), .int .i64 ((aftM Wn Hn m x).y), .int .i64 ((aftM Wn Hn m x).t), .bool ((aftM Wn Hn m x).f)]⟩] := HE.out.putF 1 rfl rfl
          have HB' := putL_below (show w.heap.size ≤ g12 from G12.out) [.int .i64 ((aftM Wn Hn m x).x), .int .i64 ((aftM Wn Hn m x).y), .int .i64 ((aftM Wn Hn m x).t), .bool ((aftM Wn Hn m x).f)] _ 0 HB.out
          replace HM := Hd.mk (HM.out.put (vs := [.int .i64 ((aftM Wn Hn m x).x), .int .i64 ((aftM Wn Hn m x).y), .int .i64 ((aftM Wn Hn m x).t), .bool ((aftM Wn Hn m x).f)]) (o := 0) HMG12.out)
          replace HO := Hd.mk (HO.out.put (vs := [.int .i64 ((aftM Wn Hn m x).x), .int .i64 ((aftM Wn Hn m x).y), .int .i64 ((aftM Wn Hn m x).t), .bool ((aftM Wn Hn m x).f)]) (o := 0) HOG12.out)
          generalize putL X3 g12 0 [.int .i64 ((aftM Wn Hn m x).x), .int .i64 ((aftM Wn Hn m x).y), .int .i64 ((aftM Wn Hn m x).t), .bool ((aftM Wn Hn m x).f)] = X4 at *
          replace HE := Hd.mk HE'
          replace HB := Hd.mk HB'
          clear HE' HB'
          cases hin : memB (aftM Wn Hn m x) cur
          · have HIB := Hd.mk hin
            clear hin
            go_upto_region 11 with fail
            refine wp_region_vd 8 [45, 46, 47, 48, 49, 50, 51, 52] [0, 1, 2, 7] [] 84 [.int .i64 0, .int .i64 0] [isV (.slice (some ⟨gI, 0, none⟩) ((8 * ((Wn : Nat) : Int) * ((Hn : Nat) : Int)).toNat) ((8 * ((Wn : Nat) : Int) * ((Hn : Nat) : Int)).toNat)), isV (.int .i64 (((Wn : Nat) : Int))), isV (.int .i64 (((Hn : Nat) : Int))), isV (.agg #[.int .i64 ((aftM Wn Hn m x).x), .int .i64 ((aftM Wn Hn m x).y), .int .i64 ((aftM Wn Hn m x).t), .bool ((aftM Wn Hn m x).f)]), isV (.int .i64 (numM Wn Hn (aftM Wn Hn m x))), isV (.pointer (some (⟨gI, (numM Wn Hn (aftM Wn Hn m x)).toNat, none⟩))), isV (.bool false), isV (.bool true)] (by rfl) alloc_Z ?_ ?_
            · intro qi qh qA aa wx hb hs hd
              match qi, qh, qA with
              | 0, _, _ => exact .inl ⟨rfl, op_mv rfl (hs 7 rfl)⟩
              | 1, _, _ => exact .inl ⟨rfl, op_mv rfl (hs 0 rfl)⟩
              | 2, _, _ => exact .inl ⟨rfl, op_mv rfl (hs 1 rfl)⟩
              | 3, _, _ => exact .inl ⟨rfl, op_ldN rfl rfl (hs 12 rfl) ((HE.out.to hb).get 1 rfl)⟩
              | 4, _, _ => exact .inl ⟨rfl, op_call3 rfl rfl Try.call65 (by rw [(show aa.eval (.tmp 46) = .int .i64 (((Wn : Nat) : Int)) from (hd 1 rfl)), (show aa.eval (.tmp 47) = .int .i64 (((Hn : Nat) : Int)) from (hd 2 rfl)), (show aa.eval (.tmp 48) = .agg #[.int .i64 ((aftM Wn Hn m x).x), .int .i64 ((aftM Wn Hn m x).y), .int .i64 ((aftM Wn Hn m x).t), .bool ((aftM Wn Hn m x).f)] from (hd 3 rfl))]; exact number_got Wn Hn (aftM Wn Hn m x) HNA.out _)⟩
              | 5, _, _ => exact .inl ⟨rfl, op_run rfl (op_idxB (by omega) (by omega) rfl (hd 0 rfl) (hd 4 rfl) _) rfl⟩
              | 6, _, _ => exact .inl ⟨rfl, wp_b (bool_eq HIB.out) (wp_b (bool_eq (HIN.out.2 _ HNA.out)) (op_ldB rfl rfl (hd 5 rfl) ((HM.out.to hb).cell (by rw [HIN.out.1]; omega))))⟩
              | 7, _, _ => exact .inl ⟨rfl, ⟨_, op_not rfl (hd 6 rfl), rfl⟩⟩
              | qi + 8, h, _ => omega
            intro vs X5 hb hv hal hne
            replace HB := Hd.mk (bel_then HB.out hb)
            replace HE := Hd.mk (HE.out.to hb)
            have HML := Hd.mk HM.out.lt
            replace HM := Hd.mk (HM.out.to hb)
            have HOL := Hd.mk HO.out.lt
            replace HO := Hd.mk (HO.out.to hb)
            have e52 : vs 52 = .bool true := hv 7 (by decide) rfl
            simp only [PA, e52]
            clear hv hal hne hb e52 HML HOL
            go_upto_region 12 with fail
            refine wp_region_vd 6 [53, 54, 55, 56, 57, 58] [0, 1, 2] [] 84 [.int .i64 0, .int .i64 0] [isV (.slice (some ⟨gI, 0, none⟩) ((8 * ((Wn : Nat) : Int) * ((Hn : Nat) : Int)).toNat) ((8 * ((Wn : Nat) : Int) * ((Hn : Nat) : Int)).toNat)), isV (.int .i64 (((Wn : Nat) : Int))), isV (.int .i64 (((Hn : Nat) : Int))), isV (.agg #[.int .i64 ((aftM Wn Hn m x).x), .int .i64 ((aftM Wn Hn m x).y), .int .i64 ((aftM Wn Hn m x).t), .bool ((aftM Wn Hn m x).f)]), isV (.int .i64 (numM Wn Hn (aftM Wn Hn m x))), isV (.pointer (some (⟨gI, (numM Wn Hn (aftM Wn Hn m x)).toNat, none⟩)))] (by rfl) alloc_Z ?_ ?_
            · intro qi qh qA aa wx hb hs hd
              match qi, qh, qA with
              | 0, _, _ => exact .inl ⟨rfl, op_mv rfl (hs 7 rfl)⟩
              | 1, _, _ => exact .inl ⟨rfl, op_mv rfl (hs 0 rfl)⟩
              | 2, _, _ => exact .inl ⟨rfl, op_mv rfl (hs 1 rfl)⟩
              | 3, _, _ => exact .inl ⟨rfl, op_ldN rfl rfl (hs 12 rfl) ((HE.out.to hb).get 1 rfl)⟩
              | 4, _, _ => exact .inl ⟨rfl, op_call3 rfl rfl Try.call65 (by rw [(show aa.eval (.tmp 54) = .int .i64 (((Wn : Nat) : Int)) from (hd 1 rfl)), (show aa.eval (.tmp 55) = .int .i64 (((Hn : Nat) : Int)) from (hd 2 rfl)), (show aa.eval (.tmp 56) = .agg #[.int .i64 ((aftM Wn Hn m x).x), .int .i64 ((aftM Wn Hn m x).y), .int .i64 ((aftM Wn Hn m x).t), .bool ((aftM Wn Hn m x).f)] from (hd 3 rfl))]; exact number_got Wn Hn (aftM Wn Hn m x) HNA.out _)⟩
              | 5, _, _ => exact .inl ⟨rfl, op_run rfl (op_idxB (by omega) (by omega) rfl (hd 0 rfl) (hd 4 rfl) _) rfl⟩
              | qi + 6, h, _ => omega
            intro vs X6 hb hv hal hne
            replace HB := Hd.mk (bel_then HB.out hb)
            replace HE := Hd.mk (HE.out.to hb)
            have HML := Hd.mk HM.out.lt
            replace HM := Hd.mk (HM.out.to hb)
            have HOL := Hd.mk HO.out.lt
            replace HO := Hd.mk (HO.out.to hb)
            have e58 : vs 58 = .pointer (some (⟨gI, (numM Wn Hn (aftM Wn Hn m x)).toNat, none⟩)) := hv 5 (by decide) rfl
            simp only [PA, e58]
            clear hv hal hne hb e58 HML HOL
            have hlt9 : (numM Wn Hn (aftM Wn Hn m x)).toNat < bs2.length := by rw [HIN.out.1]; omega
            refine wpList_st rfl rfl rfl rfl rfl (sto_BB (b := true) HM.out hlt9) ?_
            have HM1 := BB.set (b := true) HM.out hlt9
            have HB1 := putL_below (show w.heap.size ≤ gI from HGI.out) [.bool true] _ (numM Wn Hn (aftM Wn Hn m x)).toNat HB.out
            have HO1 := ownM_bb (j := (numM Wn Hn (aftM Wn Hn m x)).toNat) (c := true) HO.out HM.out
            have HE1 := Env.grown HE.out (putL_by [.bool true] X6 (numM Wn Hn (aftM Wn Hn m x)).toNat) (fun e he => by
              obtain ⟨rb, hrb⟩ := HM.out
              rcases List.mem_cons.1 he with rfl | he
              · exact Nat.ne_of_gt HMG11.out
              rw [List.mem_singleton.1 he]
              exact Nat.ne_of_gt HMG12.out)
            generalize putL X6 gI (numM Wn Hn (aftM Wn Hn m x)).toNat [.bool true] = XS at *
            have HIN1 : InB Wn Hn (bs2.set (numM Wn Hn (aftM Wn Hn m x)).toNat true) (cur ++ [(aftM Wn Hn m x)]) := inB_set HIN.out HNA.out
            replace HM := Hd.mk HM1
            replace HB := Hd.mk HB1
            replace HO := Hd.mk HO1
            replace HE := Hd.mk HE1
            clear HM1 HB1 HO1 HE1
            have k26a := HE.out.cell 1 0 rfl rfl
            have k26b := HE.out.cell 1 1 rfl rfl
            have k26c := HE.out.cell 1 2 rfl rfl
            have k26d := HE.out.cell 1 3 rfl rfl
            have HXS := Nat.le_trans HB.out.size (Nat.le_refl _)
            obtain ⟨i0, hi0, hz0, hz1, hz2⟩ := info_parts Try.info_rmove
            go_wp2_with (first | (at_builtin; refine wpList_append_own _ rfl (.tmp 59) (.tmp 61) 51 rfl w.heap.size 26 i0 (.agg #[.int .i64 0, .int .i64 0, .int .i64 0, .bool false]) 4 32 Try.underlying51 hi0 hz0 hz1 hz2 rfl (by decide) (.slice (some a8) cur.length k8) (cur).length (mcells (cur)) rfl (HO.out.to (below_alloc (Below.refl _ _) _)) ⟨XS.heap.size, 0, none⟩ 1 1 [.int .i64 (aftM Wn Hn m x).x, .int .i64 (aftM Wn Hn m x).y, .int .i64 (aftM Wn Hn m x).t, .bool (aftM Wn Hn m x).f] rfl rfl ?c1 ?c2 ?c3 ?c4 ?c5 ?_) | fail)
            case c1 =>
              intro z u hz
              rcases z with _ | _ | _ | _ | z <;> simp at hz <;> subst hz <;> simp [Addr.add]
            case c2 =>
              intro u hu
              simp at hu
              rcases hu with rfl | rfl | rfl | rfl <;> rfl
            case c3 => unfold maxLen; omega
            case c4 => omega
            case c5 => simp; omega
            intro v1 w1 hown1 hg1 _
            have HB1 := (below_alloc HB.out _).grown hg1 (by simp; omega) (fun z hz => (HO.out.lt z hz).1)
            have HM1 := bb_own (HM.out.to (below_alloc (Below.refl _ _) _)) hg1 (HO.out.to (below_alloc (Below.refl _ _) _))
            have HCI1 : innB Wn Hn x (l.take (j + 1)) o = cur ++ [(aftM Wn Hn m x)] := by rw [HCI.out, add_yes HIB.out]
            have HO1 : OwnM w.heap.size w1 v1 (innB Wn Hn x (l.take (j + 1)) o) := by
              rw [HCI1]
              unfold OwnM
              rw [mcells_add, List.length_append]
              exact hown1
            rw [← HCI1] at HIN1
            replace HB := Hd.mk HB1
            replace HO := Hd.mk HO1
            replace HM := Hd.mk HM1
            clear HB1 HO1 HM1 hown1 hg1
            go_wp2_with fail
            go_roundw
            case rel => exact ⟨j + 1, by omega, by go_num, HO.out, ⟨_, HM.out, HIN1⟩, HB.out⟩
            case measure => simp [intOf]; omega
          have HIB := Hd.mk hin
          clear hin
          go_upto_region 11 with fail
          refine wp_region_vd 8 [45, 46, 47, 48, 49, 50, 51, 52] [0, 1, 2, 7] [] 84 [.int .i64 0, .int .i64 0] [isV (.slice (some ⟨gI, 0, none⟩) ((8 * ((Wn : Nat) : Int) * ((Hn : Nat) : Int)).toNat) ((8 * ((Wn : Nat) : Int) * ((Hn : Nat) : Int)).toNat)), isV (.int .i64 (((Wn : Nat) : Int))), isV (.int .i64 (((Hn : Nat) : Int))), isV (.agg #[.int .i64 ((aftM Wn Hn m x).x), .int .i64 ((aftM Wn Hn m x).y), .int .i64 ((aftM Wn Hn m x).t), .bool ((aftM Wn Hn m x).f)]), isV (.int .i64 (numM Wn Hn (aftM Wn Hn m x))), isV (.pointer (some (⟨gI, (numM Wn Hn (aftM Wn Hn m x)).toNat, none⟩))), isV (.bool true), isV (.bool false)] (by rfl) alloc_Z ?_ ?_
          · intro qi qh qA aa wx hb hs hd
            match qi, qh, qA with
            | 0, _, _ => exact .inl ⟨rfl, op_mv rfl (hs 7 rfl)⟩
            | 1, _, _ => exact .inl ⟨rfl, op_mv rfl (hs 0 rfl)⟩
            | 2, _, _ => exact .inl ⟨rfl, op_mv rfl (hs 1 rfl)⟩
            | 3, _, _ => exact .inl ⟨rfl, op_ldN rfl rfl (hs 12 rfl) ((HE.out.to hb).get 1 rfl)⟩
            | 4, _, _ => exact .inl ⟨rfl, op_call3 rfl rfl Try.call65 (by rw [(show aa.eval (.tmp 46) = .int .i64 (((Wn : Nat) : Int)) from (hd 1 rfl)), (show aa.eval (.tmp 47) = .int .i64 (((Hn : Nat) : Int)) from (hd 2 rfl)), (show aa.eval (.tmp 48) = .agg #[.int .i64 ((aftM Wn Hn m x).x), .int .i64 ((aftM Wn Hn m x).y), .int .i64 ((aftM Wn Hn m x).t), .bool ((aftM Wn Hn m x).f)] from (hd 3 rfl))]; exact number_got Wn Hn (aftM Wn Hn m x) HNA.out _)⟩
            | 5, _, _ => exact .inl ⟨rfl, op_run rfl (op_idxB (by omega) (by omega) rfl (hd 0 rfl) (hd 4 rfl) _) rfl⟩
            | 6, _, _ => exact .inl ⟨rfl, wp_b (bool_eq HIB.out) (wp_b (bool_eq (HIN.out.2 _ HNA.out)) (op_ldB rfl rfl (hd 5 rfl) ((HM.out.to hb).cell (by rw [HIN.out.1]; omega))))⟩
            | 7, _, _ => exact .inl ⟨rfl, ⟨_, op_not rfl (hd 6 rfl), rfl⟩⟩
            | qi + 8, h, _ => omega
          intro vs X5 hb hv hal hne
          replace HB := Hd.mk (bel_then HB.out hb)
          replace HE := Hd.mk (HE.out.to hb)
          have HML := Hd.mk HM.out.lt
          replace HM := Hd.mk (HM.out.to hb)
          have HOL := Hd.mk HO.out.lt
          replace HO := Hd.mk (HO.out.to hb)
          have e52 : vs 52 = .bool false := hv 7 (by decide) rfl
          simp only [PA, e52]
          clear hv hal hne hb e52 HML HOL
          have HCI1 : innB Wn Hn x (l.take (j + 1)) o = cur := by rw [HCI.out, add_no HIB.out]
          go_wp2_with fail
          go_roundw
          case rel => exact ⟨j + 1, by omega, by go_num, by rw [HCI1]; exact HO.out, ⟨_, HM.out, by rw [HCI1]; exact HIN.out⟩, HB.out⟩
          case measure => simp [intOf]; omega
        have e1 : j = l.length := by omega
        have HO1 : OwnM w.heap.size wr (.slice A8 (innB Wn Hn x (l.take j) o).length k8) (innB Wn Hn x l o) := by
          have h := HO.out
          rw [e1, List.take_length] at h ⊢
          exact h
        have HM1 : InB Wn Hn bs2 (innB Wn Hn x l o) := by
          have h := HIN.out
          rw [e1, List.take_length] at h
          exact h
        clear e1
        go_wp2_with fail
        go_roundw
        case rel => exact ⟨i + 1, _, HBF.out.step HX.out, by go_num, HO1, ⟨_, HM.out, HM1⟩, HB.out⟩
        case measure => simp [intOf]; omega
    have e1 : o.length = i := by omega
    have HCL := Hd.mk (bfsL_eq HBF.out e1)
    clear e1
    go_upto_region 5 with fail
    refine wp_region_vd 4 [25, 26, 27, 28] [0, 1, 3] [] 84 [.int .i64 0, .int .i64 0] [isV (.int .i64 (((i : Nat) : Int))), isV (.slice A9 o.length k9), isV (.int .i64 (((o.length : Nat) : Int))), isV (.bool false)] (by rfl) alloc_Z ?_ ?_
    · intro qi qh qA aa wx hb hs hd
      match qi, qh, qA with
      | 0, _, _ => exact .inl ⟨rfl, op_mv rfl (hs 9 rfl)⟩
      | 1, _, _ => exact .inl ⟨rfl, op_mv rfl (hs 8 rfl)⟩
      | 2, _, _ => exact .inl ⟨rfl, op_lenvVN rfl rfl (hd 1 rfl)⟩
      | 3, _, _ => exact .inl ⟨rfl, pure_b (bool_eq (decide_eq_false (by omega))) (⟨_, op_lssI rfl (hd 0 rfl) (hd 2 rfl), rfl⟩)⟩
      | qi + 4, h, _ => omega
    intro vs X1 hb hv hal hne
    replace HB := Hd.mk (bel_then HB.out hb)
    replace HE := Hd.mk (HE.out.to hb)
    have HML := Hd.mk HM.out.lt
    replace HM := Hd.mk (HM.out.to hb)
    have HOL := Hd.mk HO.out.lt
    replace HO := Hd.mk (HO.out.to hb)
    have e28 : vs 28 = .bool false := hv 3 (by decide) rfl
    simp only [PA, e28]
    clear hv hal hne hb e28 HML HOL
    clear HO
    go_upto_region 15 with fail
    refine wp_region_vd 0 [] [] [] 84 [.int .i64 0, .int .i64 0] [] (by rfl) alloc_Z ?_ ?_
    · intro qi qh qA aa wx hb hs hd
      match qi, qh, qA with
      | qi + 0, h, _ => omega
    intro vs X2 hb hv hal hne
    replace HB := Hd.mk (bel_then HB.out hb)
    replace HE := Hd.mk (HE.out.to hb)
    have HML := Hd.mk HM.out.lt
    replace HM := Hd.mk (HM.out.to hb)
    simp only [PA]
    clear hv hal hne hb HML
    go_upto_region 16 with fail
    refine wp_region_vd 5 [64, 65, 66, 67, 68] [0, 1, 4] [] 84 [.int .i64 0, .int .i64 0] [isV (.int .i64 (((Wn : Nat) : Int))), isV (.int .i64 (((Hn : Nat) : Int))), isRd 26 ((mvs1 Wn Hn 2)), isV (.int .i64 ((((mvs1 Wn Hn 2).length : Nat) : Int))), isV (.int .i64 0)] (by rfl) alloc_Z ?_ ?_
    · intro qi qh qA aa wx hb hs hd
      match qi, qh, qA with
      | 0, _, _ => exact .inl ⟨rfl, op_mv rfl (hs 0 rfl)⟩
      | 1, _, _ => exact .inl ⟨rfl, op_mv rfl (hs 1 rfl)⟩
      | 2, _, _ => exact .inl ⟨rfl, op_call2 rfl rfl Try.call41 (by rw [show aa.eval (.tmp 64) = .int .i64 ((Wn : Nat) : Int) from hd 0 rfl, show aa.eval (.tmp 65) = .int .i64 ((Hn : Nat) : Int) from hd 1 rfl]; exact got_rdM (rMoves_got Wn Hn HWn.out HHn.out _))⟩
      | 3, _, _ => exact .inl ⟨rfl, (by obtain ⟨A', k', e', _⟩ := hd 2 rfl; exact op_lenvVN rfl rfl e')⟩
      | 4, _, _ => exact .inl ⟨rfl, op_mv rfl rfl⟩
      | qi + 5, h, _ => omega
    intro vs X3 hb hv hal hne
    replace HB := Hd.mk (bel_then HB.out hb)
    replace HE := Hd.mk (HE.out.to hb)
    have HML := Hd.mk HM.out.lt
    replace HM := Hd.mk (HM.out.to hb)
    obtain ⟨A66, k66, e66, r66⟩ : (isRd 26 ((mvs1 Wn Hn 2))).p (vs 66) X3 := hv 2 (by decide) rfl
    have HRL := Hd.mk r66.rd
    clear r66
    have e67 : vs 67 = .int .i64 ((((mvs1 Wn Hn 2).length : Nat) : Int)) := hv 3 (by decide) rfl
    have e68 : vs 68 = .int .i64 0 := hv 4 (by decide) rfl
    simp only [PA, e66, e67, e68]
    clear hv hal hne hb e66 e67 e68 HML
    have HBO := HB
    clear HB HE
    generalize X3 = w at *
    have HB : Hd (Below w.heap.size w w) := ⟨Below.refl _ _⟩
    have HE : Hd (Env w []) := ⟨trivial⟩
    have HOZ : OwnM w.heap.size w (.slice none 0 0) [] := World.ownsRow_nil _ _ _ _
    have HO : Hd (OwnM w.heap.size w (.slice none 0 0) (((mvs1 Wn Hn 2).take 0).filter fun x => memB x o)) := ⟨HOZ⟩
    clear HOZ
    obtain ⟨L, hL⟩ : ∃ L, L = (mvs1 Wn Hn 2) := ⟨_, rfl⟩
    have HLL := Hd.mk hL
    have hlL : L.length ≤ 512 := by rw [hL]; exact len1 Wn Hn HWn.out.2 HHn.out.2 2
    rw [← hL] at HRL HO ⊢
    have HBB := HM
    clear hL
    go_wp2_with fail
    go_loopw [13, 68] (fun s13 s68 wr => ∃ j : Nat, j ≤ L.length ∧ s68 = .int .i64 j ∧ OwnM w.heap.size wr s13 ((L.take j).filter fun x => memB x o) ∧ Below w.heap.size w wr) (fun _ s68 _ => L.length - (intOf s68).toNat)
    case atStart => exact ⟨0, Nat.zero_le _, rfl, HO.out, HB.out⟩
    case round =>
      obtain ⟨j, hjl, rfl, ho, hb⟩ := hrel
      clear HB HE HO
      obtain ⟨A13, k13, rfl, _⟩ := row_reads ho
      have HB := Hd.mk hb
      have HO := Hd.mk ho
      have HE : Hd (Env wr []) := ⟨trivial⟩
      clear ho hb
      by_cases hj : j < L.length
      · obtain ⟨x, hx⟩ : ∃ x, L[j]? = some x := ⟨_, List.getElem?_eq_getElem hj⟩
        obtain ⟨ad, rfl⟩ := HRL.out.some_ hx
        have HJX := Hd.mk hx
        have HNA : Hd (Al Wn Hn x) := ⟨(mem_moves HS.out x).1 (by rw [← HLL.out]; exact List.mem_of_getElem? hx)⟩
        have hnl := num_lt HNA.out
        have hfl : ((L.take j).filter fun x => memB x o).length ≤ 512 := Nat.le_trans (List.length_filter_le _ _) (by rw [List.length_take]; omega)
        clear hx
        go_upto_region 18 with fail
        refine wp_region_vd 3 [70, 71, 15] [] [2] 26 [.int .i64 0, .int .i64 0, .int .i64 0, .bool false] [isV (.pointer (some (ad.add (j * 4)))), isV (.agg #[.int .i64 x.x, .int .i64 x.y, .int .i64 x.t, .bool x.f]), SP.any] (by rfl) alloc_N ?_ ?_
        · intro qi qh qA aa wx hb hs hd
          match qi, qh, qA with
          | 0, _, _ => exact .inl ⟨rfl, op_run rfl (op_idxVN hj rfl (hs 66 rfl) (hs 68 rfl) _) rfl⟩
          | 1, _, _ => exact .inl ⟨rfl, op_ldvVN rfl rfl (hd 0 rfl) ((HRL.out.to (bel_then HB.out hb)).at_ HJX.out)⟩
          | 2, _, h => cases h
          | qi + 3, h, _ => omega
        intro vs X1 hb hv hal hne
        have HL0 := Hd.mk (HE.out.lt)
        have HBW := HB
        replace HB := Hd.mk (bel_then HB.out hb)
        replace HE := Hd.mk (HE.out.to hb)
        have HOL := Hd.mk HO.out.lt
        replace HO := Hd.mk (HO.out.to hb)
        have e71 : vs 71 = .agg #[.int .i64 x.x, .int .i64 x.y, .int .i64 x.t, .bool x.f] := hv 1 (by decide) rfl
        obtain ⟨g15, e15, l15, b15⟩ : ∃ g, vs 15 = .pointer (some ⟨g, 0, none⟩) ∧ _ := hal 2 rfl
        replace HE : Hd (Env X1 [⟨g15, 26, [.int .i64 0, .int .i64 0, .int .i64 0, .bool false]⟩]) := ⟨Env.addne (e := ⟨g15, 26, [.int .i64 0, .int .i64 0, .int .i64 0, .bool false]⟩) HE.out b15 (fun e' he => Nat.ne_of_lt (Nat.lt_of_lt_of_le (HL0.out e' he) l15))⟩
        have HOG15 : Hd (∀ k, (Value.slice A13 ((L.take j).filter fun x => memB x o).length k13).ownBlock = some k → k < g15) := ⟨fun k hk => Nat.lt_of_lt_of_le (HOL.out k hk).2 l15⟩
        have G15 : Hd (w.heap.size ≤ g15) := ⟨Nat.le_trans HBW.out.size l15⟩
        simp only [PA, e71, e15]
        clear hv hal hne hb HL0 HBW e71 e15 l15 b15 HOL
        refine wpList_st rfl rfl rfl rfl rfl (sto_N (HE.out.get 0 rfl)) ?_
        have HE' : Env (putL X1 g15 0 [.int .i64 x.x, .int .i64 x.y, .int .i64 x.t, .bool x.f]) [⟨g15, 26, [.int .i64 x.x, .int .i64 x.y, .int .i64 x.t, .bool x.f]⟩] := HE.out.putF 0 rfl rfl
        have HB' := putL_below (show w.heap.size ≤ g15 from G15.out) [.int .i64 x.x, .int .i64 x.y, .int .i64 x.t, .bool x.f] _ 0 HB.out
        replace HO := Hd.mk (HO.out.put (vs := [.int .i64 x.x, .int .i64 x.y, .int .i64 x.t, .bool x.f]) (o := 0) HOG15.out)
        generalize putL X1 g15 0 [.int .i64 x.x, .int .i64 x.y, .int .i64 x.t, .bool x.f] = X2 at *
        replace HE := Hd.mk HE'
        replace HB := Hd.mk HB'
        clear HE' HB'
        cases hin : memB x o
        · have HIB := Hd.mk hin
          clear hin
          go_upto_region 19 with fail
          refine wp_region_vd 7 [72, 73, 74, 75, 76, 77, 78] [0, 1, 2] [] 84 [.int .i64 0, .int .i64 0] [isV (.slice (some ⟨gI, 0, none⟩) ((8 * ((Wn : Nat) : Int) * ((Hn : Nat) : Int)).toNat) ((8 * ((Wn : Nat) : Int) * ((Hn : Nat) : Int)).toNat)), isV (.int .i64 (((Wn : Nat) : Int))), isV (.int .i64 (((Hn : Nat) : Int))), isV (.agg #[.int .i64 x.x, .int .i64 x.y, .int .i64 x.t, .bool x.f]), isV (.int .i64 (numM Wn Hn x)), isV (.pointer (some (⟨gI, (numM Wn Hn x).toNat, none⟩))), isV (.bool false)] (by rfl) alloc_Z ?_ ?_
          · intro qi qh qA aa wx hb hs hd
            match qi, qh, qA with
            | 0, _, _ => exact .inl ⟨rfl, op_mv rfl (hs 7 rfl)⟩
            | 1, _, _ => exact .inl ⟨rfl, op_mv rfl (hs 0 rfl)⟩
            | 2, _, _ => exact .inl ⟨rfl, op_mv rfl (hs 1 rfl)⟩
            | 3, _, _ => exact .inl ⟨rfl, op_ldN rfl rfl (hs 15 rfl) ((HE.out.to hb).get 0 rfl)⟩
            | 4, _, _ => exact .inl ⟨rfl, op_call3 rfl rfl Try.call65 (by rw [(show aa.eval (.tmp 73) = .int .i64 (((Wn : Nat) : Int)) from (hd 1 rfl)), (show aa.eval (.tmp 74) = .int .i64 (((Hn : Nat) : Int)) from (hd 2 rfl)), (show aa.eval (.tmp 75) = .agg #[.int .i64 x.x, .int .i64 x.y, .int .i64 x.t, .bool x.f] from (hd 3 rfl))]; exact number_got Wn Hn x HNA.out _)⟩
            | 5, _, _ => exact .inl ⟨rfl, op_run rfl (op_idxB (by omega) (by omega) rfl (hd 0 rfl) (hd 4 rfl) _) rfl⟩
            | 6, _, _ => exact .inl ⟨rfl, wp_b (bool_eq HIB.out) (wp_b (bool_eq (HIN.out.2 _ HNA.out)) (op_ldB rfl rfl (hd 5 rfl) ((HBB.out.to (bel_then HB.out hb)).cell (by rw [HIN.out.1]; omega))))⟩
            | qi + 7, h, _ => omega
          intro vs X3 hb hv hal hne
          replace HB := Hd.mk (bel_then HB.out hb)
          replace HE := Hd.mk (HE.out.to hb)
          have HOL := Hd.mk HO.out.lt
          replace HO := Hd.mk (HO.out.to hb)
          have e78 : vs 78 = .bool false := hv 6 (by decide) rfl
          simp only [PA, e78]
          clear hv hal hne hb e78 HOL
          go_wp2_with fail
          go_roundw
          case rel => exact ⟨j + 1, by omega, by go_num, by rw [filt_miss HJX.out HIB.out]; exact HO.out, HB.out⟩
          case measure => simp [intOf]; omega
        have HIB := Hd.mk hin
        clear hin
        go_upto_region 19 with fail
        refine wp_region_vd 7 [72, 73, 74, 75, 76, 77, 78] [0, 1, 2] [] 84 [.int .i64 0, .int .i64 0] [isV (.slice (some ⟨gI, 0, none⟩) ((8 * ((Wn : Nat) : Int) * ((Hn : Nat) : Int)).toNat) ((8 * ((Wn : Nat) : Int) * ((Hn : Nat) : Int)).toNat)), isV (.int .i64 (((Wn : Nat) : Int))), isV (.int .i64 (((Hn : Nat) : Int))), isV (.agg #[.int .i64 x.x, .int .i64 x.y, .int .i64 x.t, .bool x.f]), isV (.int .i64 (numM Wn Hn x)), isV (.pointer (some (⟨gI, (numM Wn Hn x).toNat, none⟩))), isV (.bool true)] (by rfl) alloc_Z ?_ ?_
        · intro qi qh qA aa wx hb hs hd
          match qi, qh, qA with
          | 0, _, _ => exact .inl ⟨rfl, op_mv rfl (hs 7 rfl)⟩
          | 1, _, _ => exact .inl ⟨rfl, op_mv rfl (hs 0 rfl)⟩
          | 2, _, _ => exact .inl ⟨rfl, op_mv rfl (hs 1 rfl)⟩
          | 3, _, _ => exact .inl ⟨rfl, op_ldN rfl rfl (hs 15 rfl) ((HE.out.to hb).get 0 rfl)⟩
          | 4, _, _ => exact .inl ⟨rfl, op_call3 rfl rfl Try.call65 (by rw [(show aa.eval (.tmp 73) = .int .i64 (((Wn : Nat) : Int)) from (hd 1 rfl)), (show aa.eval (.tmp 74) = .int .i64 (((Hn : Nat) : Int)) from (hd 2 rfl)), (show aa.eval (.tmp 75) = .agg #[.int .i64 x.x, .int .i64 x.y, .int .i64 x.t, .bool x.f] from (hd 3 rfl))]; exact number_got Wn Hn x HNA.out _)⟩
          | 5, _, _ => exact .inl ⟨rfl, op_run rfl (op_idxB (by omega) (by omega) rfl (hd 0 rfl) (hd 4 rfl) _) rfl⟩
          | 6, _, _ => exact .inl ⟨rfl, wp_b (bool_eq HIB.out) (wp_b (bool_eq (HIN.out.2 _ HNA.out)) (op_ldB rfl rfl (hd 5 rfl) ((HBB.out.to (bel_then HB.out hb)).cell (by rw [HIN.out.1]; omega))))⟩
          | qi + 7, h, _ => omega
        intro vs X3 hb hv hal hne
        replace HB := Hd.mk (bel_then HB.out hb)
        replace HE := Hd.mk (HE.out.to hb)
        have HOL := Hd.mk HO.out.lt
        replace HO := Hd.mk (HO.out.to hb)
        have e78 : vs 78 = .bool true := hv 6 (by decide) rfl
        simp only [PA, e78]
        clear hv hal hne hb e78 HOL
        have HFH := Hd.mk (filt_hit (q := fun x => memB x o) HJX.out HIB.out)
        generalize hcur : ((L.take j).filter fun x => memB x o) = cur at *
        have k26a := HE.out.cell 0 0 rfl rfl
        have k26b := HE.out.cell 0 1 rfl rfl
        have k26c := HE.out.cell 0 2 rfl rfl
        have k26d := HE.out.cell 0 3 rfl rfl
        have HXS := Nat.le_trans HB.out.size (Nat.le_refl _)
        obtain ⟨i0, hi0, hz0, hz1, hz2⟩ := info_parts Try.info_rmove
        go_wp2_with (first | (at_builtin; refine wpList_append_own _ rfl (.tmp 79) (.tmp 81) 51 rfl w.heap.size 26 i0 (.agg #[.int .i64 0, .int .i64 0, .int .i64 0, .bool false]) 4 32 Try.underlying51 hi0 hz0 hz1 hz2 rfl (by decide) (.slice A13 cur.length k13) (cur).length (mcells (cur)) rfl (HO.out.to (below_alloc (Below.refl _ _) _)) ⟨X3.heap.size, 0, none⟩ 1 1 [.int .i64 x.x, .int .i64 x.y, .int .i64 x.t, .bool x.f] rfl rfl ?c1 ?c2 ?c3 ?c4 ?c5 ?_) | fail)
        case c1 =>
          intro z u hz
          rcases z with _ | _ | _ | _ | z <;> simp at hz <;> subst hz <;> simp [Addr.add]
        case c2 =>
          intro u hu
          simp at hu
          rcases hu with rfl | rfl | rfl | rfl <;> rfl
        case c3 => unfold maxLen; omega
        case c4 => omega
        case c5 => simp; omega
        intro v1 w1 hown1 hg1 _
        have HB1 := (below_alloc HB.out _).grown hg1 (by simp; omega) (fun z hz => (HO.out.lt z hz).1)
        have HO1 : OwnM w.heap.size w1 v1 ((L.take (j + 1)).filter fun x => memB x o) := by
          rw [HFH.out]
          unfold OwnM
          rw [mcells_add, List.length_append]
          exact hown1
        replace HB := Hd.mk HB1
        replace HO := Hd.mk HO1
        clear HB1 HO1 hown1 hg1
        go_wp2_with fail
        go_roundw
        case rel => exact ⟨j + 1, by omega, by go_num, HO.out, HB.out⟩
        case measure => simp [intOf]; omega
      have e1 : j = L.length := by omega
      have HO1 : OwnM w.heap.size wr (.slice A13 ((L.take j).filter fun x => memB x o).length k13) (closeL Wn Hn l) := by
        have h := HO.out
        unfold closeL
        rw [HCL.out, ← HLL.out]
        rw [e1, List.take_length] at h ⊢
        exact h
      go_wp2_with fail
      go_ret
      exact ⟨_, rfl, bel_then HBO.out HB.out, HO1.lower HBO.out.size⟩
end Go.Proofs.Ytddbmckbankmeaa
