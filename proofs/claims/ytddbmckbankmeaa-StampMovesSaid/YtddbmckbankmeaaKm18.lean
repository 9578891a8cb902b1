/- Part 18 of the texts behind this claim. -/
import Derived.Test.YtddbmckbankmeaaKm13
import Derived.Test.YtddbmckbankmeaaKm17
set_option linter.unusedVariables false
set_option linter.unusedSimpArgs false
namespace Go.Proofs.Ytddbmckbankmeaa
open Go.RowKit
set_option maxRecDepth 100000 in
set_option maxHeartbeats 1000000 in
theorem ownMoves_got (A : Option Addr) (k : Nat) (ms : List Mv) (w : World) (hrm : RdM w A ms) (hln : ms.length ≤ 100000) :
    Calls Try.prog 40 #[.slice A ms.length k] w (Got w (isMs w.heap.size ms).p) := by
  have HRM := Hd.mk hrm
  clear hrm
  go_enter Try.func40, Try.ntmps40
  go_upto_region 1 with fail
  have HE : Hd (Env w []) := ⟨trivial⟩
  have HB : Hd (Below w.heap.size w w) := ⟨Below.refl _ _⟩
  refine wp_region_vd 0 [] [] [] 84 [.int .i64 0, .int .i64 0] [] (by rfl) alloc_Z ?_ ?_
  · intro qi qh qA aa wx hb hs hd
    match qi, qh, qA with
    | qi + 0, h, _ => omega
  intro vs X1 hb hv hal hne
  replace HB := Hd.mk (bel_then HB.out hb)
  replace HE := Hd.mk (HE.out.to hb)
  simp only [PA]
  clear hv hal hne hb
  go_upto_region 2 with fail
  refine wp_region_vd 3 [6, 7, 8] [0, 2] [] 84 [.int .i64 0, .int .i64 0] [isV (.slice A ms.length k), isV (.int .i64 (((ms.length : Nat) : Int))), isV (.int .i64 0)] (by rfl) alloc_Z ?_ ?_
  · intro qi qh qA aa wx hb hs hd
    match qi, qh, qA with
    | 0, _, _ => exact .inl ⟨rfl, op_mv rfl (hs 0 rfl)⟩
    | 1, _, _ => exact .inl ⟨rfl, op_lenvVM rfl rfl (hd 0 rfl)⟩
    | 2, _, _ => exact .inl ⟨rfl, op_mv rfl rfl⟩
    | qi + 3, h, _ => omega
  intro vs X2 hb hv hal hne
  replace HB := Hd.mk (bel_then HB.out hb)
  replace HE := Hd.mk (HE.out.to hb)
  have e6 : vs 6 = .slice A ms.length k := hv 0 (by decide) rfl
  have e7 : vs 7 = .int .i64 (((ms.length : Nat) : Int)) := hv 1 (by decide) rfl
  have e8 : vs 8 = .int .i64 0 := hv 2 (by decide) rfl
  simp only [PA, e6, e7, e8]
  clear hv hal hne hb e6 e7 e8
  have HO : Hd (OwnM w.heap.size X2 (.slice none 0 0) []) := ⟨World.ownsRow_nil _ _ _ _⟩
  go_wp2_with fail
  go_loopw [3, 8] (fun s3 s8 wr => ∃ j : Nat, j ≤ ms.length ∧ s8 = .int .i64 j ∧ OwnM w.heap.size wr s3 (ms.take j) ∧ Below w.heap.size w wr) (fun _ s8 _ => ms.length - (intOf s8).toNat)
  case atStart => exact ⟨0, Nat.zero_le _, rfl, HO.out, HB.out⟩
  case round =>
    obtain ⟨j, hjl, rfl, ho, hb⟩ := hrel
    clear HB HE HO
    have HB := Hd.mk hb
    have HO := Hd.mk ho
    have HE : Hd (Env wr []) := ⟨trivial⟩
    clear ho hb
    by_cases hj : j < ms.length
    · obtain ⟨m, hm⟩ : ∃ m, ms[j]? = some m := ⟨_, List.getElem?_eq_getElem hj⟩
      obtain ⟨ad, rfl⟩ := HRM.out.some_ hm
      have HM := Hd.mk hm
      clear hm
      go_upto_region 4 with fail
      refine wp_region_vd 3 [10, 11, 5] [] [2] 31 [.int .i64 0, .int .i64 0, .int .i64 0, .bool false] [isV (.pointer (some (ad.add (j * 4)))), isV (.agg #[.int .i64 m.x, .int .i64 m.y, .int .i64 m.t, .bool m.f]), SP.any] (by rfl) alloc_M ?_ ?_
      · intro qi qh qA aa wx hb hs hd
        match qi, qh, qA with
        | 0, _, _ => exact .inl ⟨rfl, op_run rfl (op_idxVM hj rfl (hs 6 rfl) (hs 8 rfl) _) rfl⟩
        | 1, _, _ => exact .inl ⟨rfl, op_ldvVM rfl rfl (hd 0 rfl) ((HRM.out.to (bel_then HB.out hb)).at_ HM.out)⟩
        | 2, _, h => cases h
        | qi + 3, h, _ => omega
      intro vs X1 hb hv hal hne
      have HL0 := Hd.mk (HE.out.lt)
      have HBW := HB
      replace HB := Hd.mk (bel_then HB.out hb)
      replace HE := Hd.mk (HE.out.to hb)
      have HOL := Hd.mk HO.out.lt
      replace HO := Hd.mk (HO.out.to hb)
      have e11 : vs 11 = .agg #[.int .i64 m.x, .int .i64 m.y, .int .i64 m.t, .bool m.f] := hv 1 (by decide) rfl
      obtain ⟨g5, e5, l5, b5⟩ : ∃ g, vs 5 = .pointer (some ⟨g, 0, none⟩) ∧ _ := hal 2 rfl
      replace HE : Hd (Env X1 [⟨g5, 31, [.int .i64 0, .int .i64 0, .int .i64 0, .bool false]⟩]) := ⟨Env.addne (e := ⟨g5, 31, [.int .i64 0, .int .i64 0, .int .i64 0, .bool false]⟩) HE.out b5 (fun e' he => Nat.ne_of_lt (Nat.lt_of_lt_of_le (HL0.out e' he) l5))⟩
      have HOG5 : Hd (∀ k, u3.ownBlock = some k → k < g5) := ⟨fun k hk => Nat.lt_of_lt_of_le (HOL.out k hk).2 l5⟩
      have G5 : Hd (w.heap.size ≤ g5) := ⟨Nat.le_trans HBW.out.size l5⟩
      simp only [PA, e11, e5]
      clear hv hal hne hb HL0 HBW e11 e5 l5 b5 HOL
      refine wpList_st rfl rfl rfl rfl rfl (sto_M (HE.out.get 0 rfl)) ?_
      have HE' : Env (putL X1 g5 0 [.int .i64 m.x, .int .i64 m.y, .int .i64 m.t, .bool m.f]) [⟨g5, 31, [.int .i64 m.x, .int .i64 m.y, .int .i64 m.t, .bool m.f]⟩] := HE.out.putF 0 rfl rfl
      have HB' := putL_below (show w.heap.size ≤ g5 from G5.out) [.int .i64 m.x, .int .i64 m.y, .int .i64 m.t, .bool m.f] _ 0 HB.out
      replace HO := Hd.mk (HO.out.put (vs := [.int .i64 m.x, .int .i64 m.y, .int .i64 m.t, .bool m.f]) (o := 0) HOG5.out)
      generalize putL X1 g5 0 [.int .i64 m.x, .int .i64 m.y, .int .i64 m.t, .bool m.f] = X2 at *
      replace HE := Hd.mk HE'
      replace HB := Hd.mk HB'
      clear HE' HB'
      have k26a := HE.out.cell 0 0 rfl rfl
      have k26b := HE.out.cell 0 1 rfl rfl
      have k26c := HE.out.cell 0 2 rfl rfl
      have k26d := HE.out.cell 0 3 rfl rfl
      have HLN : (ms.take j).length ≤ 100000 := by rw [List.length_take]; omega
      have HXS := Nat.le_trans HB.out.size (Nat.le_refl _)
      obtain ⟨i0, hi0, hz0, hz1, hz2⟩ := info_parts Try.info_rmove
      have HTK := Hd.mk (show ms.take (j + 1) = ms.take j ++ [m] from by rw [List.take_add_one, HM.out]; rfl)
      generalize hms : ms.take j = zs at HO HLN HTK
      clear hms
      go_wp2_with (first | (go_at_call 26; refine (ownMove_got m.x m.y m.t m.f _).mono ?_; rintro e w2 ⟨v2, rfl, hb2, rfl⟩; have HE2 := HE.out.to hb2) | (at_builtin; refine wpList_append_own _ rfl (.tmp 12) (.tmp 15) 51 rfl w.heap.size 26 i0 (.agg #[.int .i64 0, .int .i64 0, .int .i64 0, .bool false]) 4 32 Try.underlying51 hi0 hz0 hz1 hz2 rfl (by decide) u3 zs.length (mcells zs) rfl ((HO.out.to hb2).to (below_alloc (Below.refl _ _) _)) ⟨w2.heap.size, 0, none⟩ 1 1 [.int .i64 m.x, .int .i64 m.y, .int .i64 m.t, .bool m.f] rfl rfl ?c1 ?c2 ?c3 ?c4 ?c5 ?_) | fail)
      case c1 =>
        intro z u hz
        rcases z with _ | _ | _ | _ | z <;> simp at hz <;> subst hz <;> simp [Addr.add]
      case c2 =>
        intro u hu
        simp at hu
        rcases hu with rfl | rfl | rfl | rfl <;> rfl
      case c3 => unfold maxLen; omega
      case c4 => omega
      case c5 => have := hb2.size; simp; omega
      intro v1 w1 hown1 hg1 _
      have HB2 := bel_then HB.out hb2
      have HB1 := (below_alloc HB2 _).grown hg1 (by have := HB2.size; simp; omega) (fun z hz => (HO.out.lt z hz).1)
      have HO1 : OwnM w.heap.size w1 v1 (ms.take (j + 1)) := by
        rw [HTK.out]
        unfold OwnM
        rw [mcells_add, List.length_append]
        exact hown1
      replace HB := Hd.mk HB1
      replace HO := Hd.mk HO1
      clear HB1 HO1 hown1 hg1 HE HE2 HB2
      go_wp2_with fail
      go_roundw
      case rel => exact ⟨j + 1, by omega, by go_num, HO.out, HB.out⟩
      case measure => simp [intOf]; omega
    have e1 : j = ms.length := by omega
    have HO1 : OwnM w.heap.size wr u3 ms := by
      have h := HO.out
      rw [e1, List.take_length] at h
      exact h
    clear e1
    go_wp2_with fail
    go_ret
    exact ⟨u3, rfl, HB.out, HO1⟩
set_option maxRecDepth 100000 in
set_option maxHeartbeats 1000000 in
theorem equalM_same (A : Option Addr) (k : Nat) (B : Option Addr) (c : Nat) (ms : List Mv) (w : World) (hrm : RdM w A ms) (hrn : RdM w B ms) (hln : ms.length ≤ 100000) :
    Calls Try.prog 39 #[.slice A ms.length k, .slice B ms.length c] w (Got w (isV (.bool true)).p) := by
  have HRM := Hd.mk hrm
  have HRN := Hd.mk hrn
  clear hrm hrn
  go_enter Try.func39, Try.ntmps39
  go_upto_region 1 with fail
  have HE : Hd (Env w []) := ⟨trivial⟩
  have HB : Hd (Below w.heap.size w w) := ⟨Below.refl _ _⟩
  refine wp_region_vd 5 [6, 7, 8, 9, 10] [0, 2, 4] [] 84 [.int .i64 0, .int .i64 0] [isV (.slice A ms.length k), isV (.int .i64 (((ms.length : Nat) : Int))), isV (.slice B ms.length c), isV (.int .i64 (((ms.length : Nat) : Int))), isV (.bool false)] (by rfl) alloc_Z ?_ ?_
  · intro qi qh qA aa wx hb hs hd
    match qi, qh, qA with
    | 0, _, _ => exact .inl ⟨rfl, op_mv rfl (hs 0 rfl)⟩
    | 1, _, _ => exact .inl ⟨rfl, op_lenvVN rfl rfl (hd 0 rfl)⟩
    | 2, _, _ => exact .inl ⟨rfl, op_mv rfl (hs 1 rfl)⟩
    | 3, _, _ => exact .inl ⟨rfl, op_lenvVN rfl rfl (hd 2 rfl)⟩
    | 4, _, _ => exact .inl ⟨rfl, pure_b (bool_eq (by simp)) (⟨_, op_neqI rfl (hd 1 rfl) (hd 3 rfl), rfl⟩)⟩
    | qi + 5, h, _ => omega
  intro vs X1 hb hv hal hne
  replace HB := Hd.mk (bel_then HB.out hb)
  replace HE := Hd.mk (HE.out.to hb)
  have e10 : vs 10 = .bool false := hv 4 (by decide) rfl
  simp only [PA, e10]
  clear hv hal hne hb e10
  go_upto_region 3 with fail
  refine wp_region_vd 3 [11, 12, 13] [0, 2] [] 84 [.int .i64 0, .int .i64 0] [isV (.slice A ms.length k), isV (.int .i64 (((ms.length : Nat) : Int))), isV (.int .i64 0)] (by rfl) alloc_Z ?_ ?_
  · intro qi qh qA aa wx hb hs hd
    match qi, qh, qA with
    | 0, _, _ => exact .inl ⟨rfl, op_mv rfl (hs 0 rfl)⟩
    | 1, _, _ => exact .inl ⟨rfl, op_lenvVN rfl rfl (hd 0 rfl)⟩
    | 2, _, _ => exact .inl ⟨rfl, op_mv rfl rfl⟩
    | qi + 3, h, _ => omega
  intro vs X2 hb hv hal hne
  replace HB := Hd.mk (bel_then HB.out hb)
  replace HE := Hd.mk (HE.out.to hb)
  have e12 : vs 12 = .int .i64 (((ms.length : Nat) : Int)) := hv 1 (by decide) rfl
  have e13 : vs 13 = .int .i64 0 := hv 2 (by decide) rfl
  simp only [PA, e12, e13]
  clear hv hal hne hb e12 e13
  go_wp2_with fail
  go_loopw [13] (fun s13 wr => ∃ j : Nat, j ≤ ms.length ∧ s13 = .int .i64 j ∧ Below w.heap.size w wr) (fun s13 _ => ms.length - (intOf s13).toNat)
  case atStart => exact ⟨0, Nat.zero_le _, rfl, HB.out⟩
  case round =>
    obtain ⟨j, hjl, rfl, hb⟩ := hrel
    clear HB HE
    have HB := Hd.mk hb
    have HE : Hd (Env wr []) := ⟨trivial⟩
    clear hb
    by_cases hj : j < ms.length
    · obtain ⟨m, hm⟩ : ∃ m, ms[j]? = some m := ⟨_, List.getElem?_eq_getElem hj⟩
      obtain ⟨ad, rfl⟩ := HRM.out.some_ hm
      obtain ⟨bd, rfl⟩ := HRN.out.some_ hm
      have HM := Hd.mk hm
      clear hm
      go_upto_region 5 with fail
      refine wp_region_vd 1 [15] [0] [] 84 [.int .i64 0, .int .i64 0] [isV (.int .i64 (((j : Nat) : Int)))] (by rfl) alloc_Z ?_ ?_
      · intro qi qh qA aa wx hb hs hd
        match qi, qh, qA with
        | 0, _, _ => exact .inl ⟨rfl, op_mv rfl (hs 13 rfl)⟩
        | qi + 1, h, _ => omega
      intro vs X1 hb hv hal hne
      replace HB := Hd.mk (bel_then HB.out hb)
      replace HE := Hd.mk (HE.out.to hb)
      have e15 : vs 15 = .int .i64 (((j : Nat) : Int)) := hv 0 (by decide) rfl
      simp only [PA, e15]
      clear hv hal hne hb e15
      go_upto_region 6 with fail
      refine wp_region_vs 9 [16, 17, 18, 19, 20, 21, 22, 23, 24] [0, 1, 4, 5, 8] [] 84 [.int .i64 0, .int .i64 0] [isV (.slice (some ad) ms.length k), isV (.int .i64 (((j : Nat) : Int))), isV (.pointer (some (ad.add (j * 4)))), isV (.agg #[.int .i64 m.x, .int .i64 m.y, .int .i64 m.t, .bool m.f]), isV (.slice (some bd) ms.length c), isV (.int .i64 (((j : Nat) : Int))), isV (.pointer (some (bd.add (j * 4)))), isV (.agg #[.int .i64 m.x, .int .i64 m.y, .int .i64 m.t, .bool m.f]), isV (.bool false)] (by kernel_rfl) (by kernel_rfl) (by kernel_rfl) (by rfl) alloc_Z (fun d v c a w h => by cases d <;> exact h) ?_ ?_
      · intro qi qh qA aa wx hb hs hd
        match qi, qh, qA with
        | 0, _, _ => exact op_mv rfl (hs 0 rfl)
        | 1, _, _ => exact op_mv rfl (hs 5 rfl)
        | 2, _, _ => exact op_run rfl (op_idxVN hj rfl (hd 0 rfl) (hd 1 rfl) _) rfl
        | 3, _, _ => exact op_ldvVN rfl rfl (hd 2 rfl) ((HRM.out.to (bel_then HB.out hb)).at_ HM.out)
        | 4, _, _ => exact op_mv rfl (hs 1 rfl)
        | 5, _, _ => exact op_mv rfl (hs 5 rfl)
        | 6, _, _ => exact op_run rfl (op_idxVN hj rfl (hd 4 rfl) (hd 5 rfl) _) rfl
        | 7, _, _ => exact op_ldvVN rfl rfl (hd 6 rfl) ((HRN.out.to (bel_then HB.out hb)).at_ HM.out)
        | 8, _, _ => exact ⟨_, op_neqN rfl (hd 3 rfl) (hd 7 rfl), rfl⟩
        | qi + 9, h, _ => omega
      intro vs X2 hb hv hal hne
      replace HB := Hd.mk (bel_then HB.out hb)
      replace HE := Hd.mk (HE.out.to hb)
      have e24 : vs 24 = .bool false := hv 8 (by decide) rfl
      simp only [PA, e24]
      clear hv hal hne hb e24
      go_wp2_with fail
      go_roundw
      case rel => exact ⟨j + 1, by omega, by go_num, HB.out⟩
      case measure => simp [intOf]; omega
    go_wp2_with fail
    go_ret
    exact ⟨_, rfl, HB.out, rfl⟩
end Go.Proofs.Ytddbmckbankmeaa
set_option linter.unusedVariables false
set_option linter.unusedSimpArgs false
namespace Go.Proofs.Ytddbmckbankmeaa
open Go.RowKit
theorem ms_reads {lo : Nat} {w : World} {v : Value} {ms : List Mv} (h : (isMs lo ms).p v w) : ∃ A k, v = .slice A ms.length k ∧ RdM w A ms := let ⟨A, k, e, r, _⟩ := row_reads h; ⟨A, k, e, r⟩
end Go.Proofs.Ytddbmckbankmeaa
