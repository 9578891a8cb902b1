/- Part 5 of the texts behind this claim. -/
import Derived.Maps.AppendAt
import Derived.Deep.AppendLies
import Derived.RegionTactic
import Derived.Laws.OwnMore
import Derived.Test.YtddbmckbankmeaaKq1
import Derived.Test.YtddbmckbankmeaaKq4
set_option linter.unusedVariables false
set_option linter.unusedSimpArgs false
namespace Go.Proofs.Ytddbmckbankmeaa
open Go.RowKit
theorem wrap_neg {i : Int} (h : -1000 ≤ i ∧ i ≤ 1000) : IntKind.i64.wrap (-i) = -i := wrap_fit (by unfold Fit; omega)
set_option maxRecDepth 100000 in
theorem turned_nat (dx dy : Int) (T : Nat) (f : Bool) (x y : Int) (ht : T < 4) (hx : -1000 ≤ x ∧ x ≤ 1000) (hy : -1000 ≤ y ∧ y ≤ 1000) (w : World) :
    Calls Try.prog 58 #[.agg #[.int .i64 dx, .int .i64 dy, .int .i64 (T : Int), .bool f], .int .i64 x, .int .i64 y] w (Got w (isP (isV (.int .i64 (trn f x y T).1)) (isV (.int .i64 (trn f x y T).2))).p) := by
  rcases f with _ | _
  · go_enter Try.func58, Try.ntmps58
    go_wp2
    go_loopw [1, 2, 14] (fun s1 s2 s14 wr => ∃ k : Nat, k ≤ T ∧ s14 = .int .i64 k ∧ s1 = .int .i64 (trn false x y k).1 ∧ s2 = .int .i64 (trn false x y k).2 ∧ Below w.heap.size w wr) (fun _ _ s14 _ => T - (intOf s14).toNat)
    case atStart => exact ⟨0, Nat.zero_le _, rfl, rfl, rfl, by repeat (first | exact HB.out | exact Below.refl _ _ | refine below_alloc ?_ _ | refine below_drewN ?_ _ | refine below_drew ?_ | refine below_set ?_ (by first | exact Nat.le_refl _ | omega | (simp; done) | (simp; omega)) _)⟩
    case round =>
      obtain ⟨k, hk, rfl, rfl, rfl, hbel⟩ := hrel
      have HB := Hd.mk hbel
      have HTB := Hd.mk (trn_bound false hx hy k)
      have HTS := Hd.mk (show trn false x y (k + 1) = rot (trn false x y k) from rfl)
      obtain ⟨p, hp⟩ : ∃ p, p = trn false x y k := ⟨_, rfl⟩
      rw [← hp] at HTB HTS ⊢
      have HP := Hd.mk hp
      clear hbel hp
      by_cases hlt : k < T
      · have hw := wrap_neg HTB.out.2
        go_wp2
        go_roundw
        case rel => exact ⟨k + 1, by omega, by go_num, by rw [HTS.out]; rfl, by rw [HTS.out]; rfl, HB.out⟩
        case measure => simp [intOf]; omega
      · have hkT : k = T := by omega
        have HKT := Hd.mk hkT
        clear hkT
        go_wp2
        refine bodyPost_ret (v := .tuple #[.int .i64 p.1, .int .i64 p.2]) (by simp [results, Try.results58, go_sem]) rfl ?_
        exact ⟨_, rfl, HB.out, _, _, rfl, by show Value.int _ _ = _; rw [HP.out, HKT.out], by show Value.int _ _ = _; rw [HP.out, HKT.out]⟩
  · have hw := wrap_neg hx
    go_enter Try.func58, Try.ntmps58
    go_wp2
    clear hw
    go_loopw [1, 2, 14] (fun s1 s2 s14 wr => ∃ k : Nat, k ≤ T ∧ s14 = .int .i64 k ∧ s1 = .int .i64 (trn true x y k).1 ∧ s2 = .int .i64 (trn true x y k).2 ∧ Below w.heap.size w wr) (fun _ _ s14 _ => T - (intOf s14).toNat)
    case atStart => exact ⟨0, Nat.zero_le _, rfl, rfl, rfl, by repeat (first | exact HB.out | exact Below.refl _ _ | refine below_alloc ?_ _ | refine below_drewN ?_ _ | refine below_drew ?_ | refine below_set ?_ (by first | exact Nat.le_refl _ | omega | (simp; done) | (simp; omega)) _)⟩
    case round =>
      obtain ⟨k, hk, rfl, rfl, rfl, hbel⟩ := hrel
      have HB := Hd.mk hbel
      have HTB := Hd.mk (trn_bound true hx hy k)
      have HTS := Hd.mk (show trn true x y (k + 1) = rot (trn true x y k) from rfl)
      obtain ⟨p, hp⟩ : ∃ p, p = trn true x y k := ⟨_, rfl⟩
      rw [← hp] at HTB HTS ⊢
      have HP := Hd.mk hp
      clear hbel hp
      by_cases hlt : k < T
      · have hw := wrap_neg HTB.out.2
        go_wp2
        go_roundw
        case rel => exact ⟨k + 1, by omega, by go_num, by rw [HTS.out]; rfl, by rw [HTS.out]; rfl, HB.out⟩
        case measure => simp [intOf]; omega
      · have hkT : k = T := by omega
        have HKT := Hd.mk hkT
        clear hkT
        go_wp2
        refine bodyPost_ret (v := .tuple #[.int .i64 p.1, .int .i64 p.2]) (by simp [results, Try.results58, go_sem]) rfl ?_
        exact ⟨_, rfl, HB.out, _, _, rfl, by show Value.int _ _ = _; rw [HP.out, HKT.out], by show Value.int _ _ = _; rw [HP.out, HKT.out]⟩
theorem turned_got (dx dy t : Int) (f : Bool) (x y : Int) (ht : 0 ≤ t ∧ t < 4) (hx : -1000 ≤ x ∧ x ≤ 1000) (hy : -1000 ≤ y ∧ y ≤ 1000) (w : World) :
    Calls Try.prog 58 #[.agg #[.int .i64 dx, .int .i64 dy, .int .i64 t, .bool f], .int .i64 x, .int .i64 y] w (Got w (isP (isV (.int .i64 (trn f x y t.toNat).1)) (isV (.int .i64 (trn f x y t.toNat).2))).p) := by
  obtain ⟨T, rfl⟩ : ∃ T : Nat, t = (T : Int) := ⟨t.toNat, by omega⟩
  rw [Int.toNat_natCast]
  exact turned_nat dx dy T f x y (by omega) hx hy w
def linv (l : Lin) : List Value := [.int .i64 l.a, .int .i64 l.b, .int .i64 l.c, .int .i64 l.d]
theorem lin_mul {a x : Int} (h : -1 ≤ a ∧ a ≤ 1) (hx : -1000 ≤ x ∧ x ≤ 1000) : -1000 ≤ a * x ∧ a * x ≤ 1000 := by
  rcases (show a = -1 ∨ a = 0 ∨ a = 1 by omega) with rfl | rfl | rfl <;> omega
set_option maxRecDepth 100000 in
set_option maxHeartbeats 1000000 in
theorem lto_got (l : Lin) (x y : Int) (hl : (-1 ≤ l.a ∧ l.a ≤ 1) ∧ (-1 ≤ l.b ∧ l.b ≤ 1) ∧ (-1 ≤ l.c ∧ l.c ≤ 1) ∧ -1 ≤ l.d ∧ l.d ≤ 1) (hx : -1000 ≤ x ∧ x ≤ 1000) (hy : -1000 ≤ y ∧ y ≤ 1000) (w : World) :
    Calls Try.prog 61 #[.agg #[.int .i64 l.a, .int .i64 l.b, .int .i64 l.c, .int .i64 l.d], .int .i64 x, .int .i64 y] w (Got w (isP (isV (.int .i64 (l.a * x + l.b * y))) (isV (.int .i64 (l.c * x + l.d * y)))).p) := by
  have b0 : -1000 ≤ l.a * x ∧ l.a * x ≤ 1000 := lin_mul hl.1 hx
  have b1 : -1000 ≤ l.b * y ∧ l.b * y ≤ 1000 := lin_mul hl.2.1 hy
  have b2 : -1000 ≤ l.c * x ∧ l.c * x ≤ 1000 := lin_mul hl.2.2.1 hx
  have b3 : -1000 ≤ l.d * y ∧ l.d * y ≤ 1000 := lin_mul hl.2.2.2 hy
  go_enter Try.func61, Try.ntmps61
  go_upto_region 1 with fail
  obtain ⟨W0, hW0⟩ : ∃ W : World, W = w.alloc (.cells #[.int .i64 l.a, .int .i64 l.b, .int .i64 l.c, .int .i64 l.d] 95) := ⟨_, rfl⟩
  rw [← hW0]
  obtain ⟨he, hb⟩ := env_one hW0
  have HE := Hd.mk he
  have HB := Hd.mk hb
  clear he hb hW0
  refine wp_region_vs 20 [8, 9, 10, 11, 12, 13, 14, 15, 16, 17, 18, 19, 20, 21, 22, 23, 24, 25, 6, 7] [0, 2, 3, 4, 6, 7, 8, 9, 11, 12, 13, 15, 16, 17, 18, 19] [] 84 [.int .i64 0, .int .i64 0] [isV (.pointer (some ⟨w.heap.size, 0, none⟩)), isV (.int .i64 l.a), isV (.int .i64 x), isV (.int .i64 (l.a * x)), isV (.pointer (some ⟨w.heap.size, 1, none⟩)), isV (.int .i64 l.b), isV (.int .i64 y), isV (.int .i64 (l.b * y)), isV (.int .i64 ((l.a * x) + (l.b * y))), isV (.pointer (some ⟨w.heap.size, 2, none⟩)), isV (.int .i64 l.c), isV (.int .i64 x), isV (.int .i64 (l.c * x)), isV (.pointer (some ⟨w.heap.size, 3, none⟩)), isV (.int .i64 l.d), isV (.int .i64 y), isV (.int .i64 (l.d * y)), isV (.int .i64 ((l.c * x) + (l.d * y))), isV (.int .i64 ((l.a * x) + (l.b * y))), isV (.int .i64 ((l.c * x) + (l.d * y)))] (by kernel_rfl) (by kernel_rfl) (by kernel_rfl) (by rfl) alloc_Z (fun d v c a w h => by cases d <;> exact h) ?_ ?_
  · intro qi qh qA aa wx hb hs hd
    match qi, qh, qA with
    | 0, _, _ => exact ⟨_, op_faL0 rfl (hs 3 rfl), rfl⟩
    | 1, _, _ => exact op_ldI rfl rfl (hd 0 rfl) ((HE.out.to hb).cell 0 0 rfl rfl)
    | 2, _, _ => exact op_mv rfl (hs 1 rfl)
    | 3, _, _ => exact ⟨_, op_mul (by unfold Fit; omega) rfl (hd 1 rfl) (hd 2 rfl), rfl⟩
    | 4, _, _ => exact ⟨_, op_faL1 rfl (hs 3 rfl), rfl⟩
    | 5, _, _ => exact op_ldI rfl rfl (hd 4 rfl) ((HE.out.to hb).cell 0 1 rfl rfl)
    | 6, _, _ => exact op_mv rfl (hs 2 rfl)
    | 7, _, _ => exact ⟨_, op_mul (by unfold Fit; omega) rfl (hd 5 rfl) (hd 6 rfl), rfl⟩
    | 8, _, _ => exact ⟨_, op_add (by unfold Fit; omega) rfl (hd 3 rfl) (hd 7 rfl), rfl⟩
    | 9, _, _ => exact ⟨_, op_faL2 rfl (hs 3 rfl), rfl⟩
    | 10, _, _ => exact op_ldI rfl rfl (hd 9 rfl) ((HE.out.to hb).cell 0 2 rfl rfl)
    | 11, _, _ => exact op_mv rfl (hs 1 rfl)
    | 12, _, _ => exact ⟨_, op_mul (by unfold Fit; omega) rfl (hd 10 rfl) (hd 11 rfl), rfl⟩
    | 13, _, _ => exact ⟨_, op_faL3 rfl (hs 3 rfl), rfl⟩
    | 14, _, _ => exact op_ldI rfl rfl (hd 13 rfl) ((HE.out.to hb).cell 0 3 rfl rfl)
    | 15, _, _ => exact op_mv rfl (hs 2 rfl)
    | 16, _, _ => exact ⟨_, op_mul (by unfold Fit; omega) rfl (hd 14 rfl) (hd 15 rfl), rfl⟩
    | 17, _, _ => exact ⟨_, op_add (by unfold Fit; omega) rfl (hd 12 rfl) (hd 16 rfl), rfl⟩
    | 18, _, _ => exact op_asg rfl (hd 8 rfl)
    | 19, _, _ => exact op_asg rfl (hd 17 rfl)
    | qi + 20, h, _ => omega
  · intro vs X1 hb hv hal hne
    have HL0 := Hd.mk (HE.out.lt)
    have HBW := HB
    replace HB := Hd.mk (bel_then HB.out hb)
    replace HE : Hd (Env X1 [⟨w.heap.size, 95, [.int .i64 l.a, .int .i64 l.b, .int .i64 l.c, .int .i64 l.d]⟩]) := ⟨HE.out.to hb⟩
    have HLS := HL0
    have e6 : vs 6 = .int .i64 ((l.a * x) + (l.b * y)) := hv 18 (by decide) rfl
    have e7 : vs 7 = .int .i64 ((l.c * x) + (l.d * y)) := hv 19 (by decide) rfl
    simp only [putAll, List.foldl_cons, List.foldl_nil, Act.put, List.setIfInBounds_toArray, List.set_cons_succ, List.set_cons_zero, List.drop_succ_cons, List.drop_zero, e6, e7]
    generalize vs 8 = s8
    generalize vs 9 = s9
    generalize vs 10 = s10
    generalize vs 11 = s11
    generalize vs 12 = s12
    generalize vs 13 = s13
    generalize vs 14 = s14
    generalize vs 15 = s15
    generalize vs 16 = s16
    generalize vs 17 = s17
    generalize vs 18 = s18
    generalize vs 19 = s19
    generalize vs 20 = s20
    generalize vs 21 = s21
    generalize vs 22 = s22
    generalize vs 23 = s23
    generalize vs 24 = s24
    generalize vs 25 = s25
    clear hv hal hne hb HL0 HBW HLS e6 e7
    go_wp2_with fail
    refine bodyPost_ret (v := .tuple #[.int .i64 ((l.a * x) + (l.b * y)), .int .i64 ((l.c * x) + (l.d * y))]) (by simp [results, Try.results61, go_sem]) rfl ?_
    exact ⟨_, rfl, HB.out, _, _, rfl, rfl, rfl⟩
set_option maxRecDepth 100000 in
set_option maxHeartbeats 1000000 in
theorem rturned_nat (f : Bool) (T : Nat) (hT : T < 4) (w : World) :
    Calls Try.prog 60 #[.bool f, .int .i64 ((T : Int))] w (Got w (isV (.agg (linv (lin f T)).toArray)).p) := by
  by_cases hf : f = true
  · subst hf
    go_enter Try.func60, Try.ntmps60
    go_upto_region 1 with fail
    obtain ⟨W0, hW0⟩ : ∃ W : World, W = w.alloc (.cells #[.int .i64 0, .int .i64 0, .int .i64 0, .int .i64 0] 95) := ⟨_, rfl⟩
    rw [← hW0]
    obtain ⟨he, hb⟩ := env_one hW0
    have HE := Hd.mk he
    have HB := Hd.mk hb
    clear he hb hW0
    refine wp_region_vd 2 [6, 5] [0] [1] 95 [.int .i64 0, .int .i64 0, .int .i64 0, .int .i64 0] [isV (.agg #[.int .i64 1, .int .i64 0, .int .i64 0, .int .i64 1]), SP.any] (by rfl) alloc_L ?_ ?_
    · intro qi qh qA aa wx hb hs hd
      match qi, qh, qA with
      | 0, _, _ => exact .inl ⟨rfl, ⟨_, op_buL rfl rfl rfl rfl rfl, rfl⟩⟩
      | 1, _, h => cases h
      | qi + 2, h, _ => omega
    · intro vs X1 hb hv hal hne
      have HL0 := Hd.mk (HE.out.lt)
      have HBW := HB
      replace HB := Hd.mk (bel_then HB.out hb)
      replace HE : Hd (Env X1 [⟨w.heap.size, 95, [.int .i64 0, .int .i64 0, .int .i64 0, .int .i64 0]⟩]) := ⟨HE.out.to hb⟩
      have HLS := HL0
      have e6 : vs 6 = .agg #[.int .i64 1, .int .i64 0, .int .i64 0, .int .i64 1] := hv 0 (by decide) rfl
      obtain ⟨g5, e5, l5, b5⟩ : ∃ g, vs 5 = .pointer (some ⟨g, 0, none⟩) ∧ _ := hal 1 rfl
      replace HE : Hd (Env X1 [⟨w.heap.size, 95, [.int .i64 0, .int .i64 0, .int .i64 0, .int .i64 0]⟩, ⟨g5, 95, [.int .i64 0, .int .i64 0, .int .i64 0, .int .i64 0]⟩]) := ⟨Env.addne (e := ⟨g5, 95, [.int .i64 0, .int .i64 0, .int .i64 0, .int .i64 0]⟩) HE.out b5 (fun e' he => Nat.ne_of_lt (Nat.lt_of_lt_of_le (HL0.out e' he) l5))⟩
      have G5 : Hd (w.heap.size ≤ g5) := ⟨Nat.le_trans HBW.out.size l5⟩
      simp only [putAll, List.foldl_cons, List.foldl_nil, Act.put, List.setIfInBounds_toArray, List.set_cons_succ, List.set_cons_zero, List.drop_succ_cons, List.drop_zero, e6, e5]
      clear hv hal hne hb HL0 HBW HLS e6 e5 l5 b5
      refine wpList_st rfl rfl rfl rfl rfl (sto_L (HE.out.get 1 rfl)) ?_
      have HE' : Env (putL X1 g5 0 [.int .i64 1, .int .i64 0, .int .i64 0, .int .i64 1]) [⟨w.heap.size, 95, [.int .i64 0, .int .i64 0, .int .i64 0, .int .i64 0]⟩, ⟨g5, 95, [.int .i64 1, .int .i64 0, .int .i64 0, .int .i64 1]⟩] := HE.out.putF 1 rfl rfl
      have HB' := putL_below (show w.heap.size ≤ g5 from G5.out) [.int .i64 1, .int .i64 0, .int .i64 0, .int .i64 1] _ 0 HB.out
      generalize putL X1 g5 0 [.int .i64 1, .int .i64 0, .int .i64 0, .int .i64 1] = X2 at *
      replace HE := Hd.mk HE'
      replace HB := Hd.mk HB'
      clear HE' HB'
      go_upto_region 3 with fail
      refine wp_region_vd 1 [8] [0] [] 84 [.int .i64 0, .int .i64 0] [isV (.pointer (some ⟨g5, 0, none⟩))] (by rfl) alloc_Z ?_ ?_
      · intro qi qh qA aa wx hb hs hd
        match qi, qh, qA with
        | 0, _, _ => exact .inl ⟨rfl, ⟨_, op_faL0 rfl (hs 5 rfl), rfl⟩⟩
        | qi + 1, h, _ => omega
      · intro vs X3 hb hv hal hne
        have HL0 := Hd.mk (HE.out.lt)
        have HBW := HB
        replace HB := Hd.mk (bel_then HB.out hb)
        replace HE : Hd (Env X3 [⟨w.heap.size, 95, [.int .i64 0, .int .i64 0, .int .i64 0, .int .i64 0]⟩, ⟨g5, 95, [.int .i64 1, .int .i64 0, .int .i64 0, .int .i64 1]⟩]) := ⟨HE.out.to hb⟩
        have HLS := HL0
        have e8 : vs 8 = .pointer (some ⟨g5, 0, none⟩) := hv 0 (by decide) rfl
        simp only [putAll, List.foldl_cons, List.foldl_nil, Act.put, List.setIfInBounds_toArray, List.set_cons_succ, List.set_cons_zero, List.drop_succ_cons, List.drop_zero, e8]
        clear hv hal hne hb HL0 HBW HLS e8
        refine wpList_st rfl rfl rfl rfl rfl (sto_I (HE.out.get 1 rfl) rfl) ?_
        have HE' : Env (putL X3 g5 0 [.int .i64 (-1)]) [⟨w.heap.size, 95, [.int .i64 0, .int .i64 0, .int .i64 0, .int .i64 0]⟩, ⟨g5, 95, [.int .i64 (-1), .int .i64 0, .int .i64 0, .int .i64 1]⟩] := HE.out.putO 1 rfl
        have HB' := putL_below (show w.heap.size ≤ g5 from G5.out) [.int .i64 (-1)] _ 0 HB.out
        generalize putL X3 g5 0 [.int .i64 (-1)] = X4 at *
        replace HE := Hd.mk HE'
        replace HB := Hd.mk HB'
        clear HE' HB'
        go_wp2_with fail
        go_loopw [10] (fun s10 wr => ∃ k : Nat, k ≤ T ∧ s10 = .int .i64 k ∧ Env wr [⟨w.heap.size, 95, [.int .i64 0, .int .i64 0, .int .i64 0, .int .i64 0]⟩, ⟨g5, 95, linv (lin true k)⟩] ∧ Below w.heap.size w wr) (fun s10 _ => T - (intOf s10).toNat)
        case atStart => exact ⟨0, Nat.zero_le _, rfl, HE.out, HB.out⟩
        case round =>
          obtain ⟨k, hk, rfl, he, hb⟩ := hrel
          have htb := lin_bound true k
          have HTS := Hd.mk (show lin true (k + 1) = (let l := lin true k; ⟨-l.c, -l.d, l.a, l.b⟩) from rfl)
          obtain ⟨l, hl⟩ : ∃ l, l = lin true k := ⟨_, rfl⟩
          rw [← hl] at he htb HTS
          have HL := Hd.mk hl
          have HBo := HB
          clear HB HE
          have HB := Hd.mk hb
          have HE : Hd (Env wr [⟨w.heap.size, 95, [.int .i64 0, .int .i64 0, .int .i64 0, .int .i64 0]⟩, ⟨g5, 95, [.int .i64 l.a, .int .i64 l.b, .int .i64 l.c, .int .i64 l.d]⟩]) := ⟨he⟩
          clear hl he hb HBo
          by_cases hlt : k < T
          · go_upto_region 6 with fail
            refine wp_region_vd 11 [12, 13, 14, 15, 16, 17, 18, 19, 20, 21, 22] [0, 2, 3, 5, 6, 8, 10] [] 84 [.int .i64 0, .int .i64 0] [isV (.pointer (some ⟨g5, 2, none⟩)), isV (.int .i64 l.c), isV (.int .i64 (-l.c)), isV (.pointer (some ⟨g5, 3, none⟩)), isV (.int .i64 l.d), isV (.int .i64 (-l.d)), isV (.pointer (some ⟨g5, 0, none⟩)), isV (.int .i64 l.a), isV (.pointer (some ⟨g5, 1, none⟩)), isV (.int .i64 l.b), isV (.agg #[.int .i64 (-l.c), .int .i64 (-l.d), .int .i64 l.a, .int .i64 l.b])] (by rfl) alloc_Z ?_ ?_
            · intro qi qh qA aa wx hb hs hd
              match qi, qh, qA with
              | 0, _, _ => exact .inl ⟨rfl, ⟨_, op_faL2 rfl (hs 5 rfl), rfl⟩⟩
              | 1, _, _ => exact .inl ⟨rfl, op_ldI rfl rfl (hd 0 rfl) ((HE.out.to hb).cell 1 2 rfl rfl)⟩
              | 2, _, _ => exact .inl ⟨rfl, ⟨_, op_neg (by unfold Fit; omega) rfl (hd 1 rfl), rfl⟩⟩
              | 3, _, _ => exact .inl ⟨rfl, ⟨_, op_faL3 rfl (hs 5 rfl), rfl⟩⟩
              | 4, _, _ => exact .inl ⟨rfl, op_ldI rfl rfl (hd 3 rfl) ((HE.out.to hb).cell 1 3 rfl rfl)⟩
              | 5, _, _ => exact .inl ⟨rfl, ⟨_, op_neg (by unfold Fit; omega) rfl (hd 4 rfl), rfl⟩⟩
              | 6, _, _ => exact .inl ⟨rfl, ⟨_, op_faL0 rfl (hs 5 rfl), rfl⟩⟩
              | 7, _, _ => exact .inl ⟨rfl, op_ldI rfl rfl (hd 6 rfl) ((HE.out.to hb).cell 1 0 rfl rfl)⟩
              | 8, _, _ => exact .inl ⟨rfl, ⟨_, op_faL1 rfl (hs 5 rfl), rfl⟩⟩
              | 9, _, _ => exact .inl ⟨rfl, op_ldI rfl rfl (hd 8 rfl) ((HE.out.to hb).cell 1 1 rfl rfl)⟩
              | 10, _, _ => exact .inl ⟨rfl, ⟨_, op_buL rfl (hd 2 rfl) (hd 5 rfl) (hd 7 rfl) (hd 9 rfl), rfl⟩⟩
              | qi + 11, h, _ => omega
            · intro vs X5 hb hv hal hne
              have HL0 := Hd.mk (HE.out.lt)
              have HBW := HB
              replace HB := Hd.mk (bel_then HB.out hb)
              replace HE : Hd (Env X5 [⟨w.heap.size, 95, [.int .i64 0, .int .i64 0, .int .i64 0, .int .i64 0]⟩, ⟨g5, 95, [.int .i64 l.a, .int .i64 l.b, .int .i64 l.c, .int .i64 l.d]⟩]) := ⟨HE.out.to hb⟩
              have HLS := HL0
              have e22 : vs 22 = .agg #[.int .i64 (-l.c), .int .i64 (-l.d), .int .i64 l.a, .int .i64 l.b] := hv 10 (by decide) rfl
              simp only [putAll, List.foldl_cons, List.foldl_nil, Act.put, List.setIfInBounds_toArray, List.set_cons_succ, List.set_cons_zero, List.drop_succ_cons, List.drop_zero, e22]
              generalize vs 12 = s12
              generalize vs 13 = s13
              generalize vs 14 = s14
              generalize vs 15 = s15
              generalize vs 16 = s16
              generalize vs 17 = s17
              generalize vs 18 = s18
              generalize vs 19 = s19
              generalize vs 20 = s20
              generalize vs 21 = s21
              clear hv hal hne hb HL0 HBW HLS e22
              refine wpList_st rfl rfl rfl rfl rfl (sto_L (HE.out.get 1 rfl)) ?_
              have HE' : Env (putL X5 g5 0 [.int .i64 (-l.c), .int .i64 (-l.d), .int .i64 l.a, .int .i64 l.b]) [⟨w.heap.size, 95, [.int .i64 0, .int .i64 0, .int .i64 0, .int .i64 0]⟩, ⟨g5, 95, [.int .i64 (-l.c), .int .i64 (-l.d), .int .i64 l.a, .int .i64 l.b]⟩] := HE.out.putF 1 rfl rfl
              have HB' := putL_below (show w.heap.size ≤ g5 from G5.out) [.int .i64 (-l.c), .int .i64 (-l.d), .int .i64 l.a, .int .i64 l.b] _ 0 HB.out
              generalize putL X5 g5 0 [.int .i64 (-l.c), .int .i64 (-l.d), .int .i64 l.a, .int .i64 l.b] = X6 at *
              replace HE := Hd.mk HE'
              replace HB := Hd.mk HB'
              clear HE' HB'
              go_wp2_with fail
              go_roundw
              case rel => exact ⟨k + 1, by omega, by go_num, by rw [HTS.out]; exact HE.out, HB.out⟩
              case measure => simp [intOf]; omega
          · have HKT : Hd (k = T) := ⟨by omega⟩
            go_upto_region 8 with fail
            refine wp_region_vd 1 [24] [] [] 84 [.int .i64 0, .int .i64 0] [isV (.agg #[.int .i64 l.a, .int .i64 l.b, .int .i64 l.c, .int .i64 l.d])] (by rfl) alloc_Z ?_ ?_
            · intro qi qh qA aa wx hb hs hd
              match qi, qh, qA with
              | 0, _, _ => exact .inl ⟨rfl, op_ldL rfl rfl (hs 5 rfl) ((HE.out.to hb).get 1 rfl)⟩
              | qi + 1, h, _ => omega
            · intro vs X5 hb hv hal hne
              have HL0 := Hd.mk (HE.out.lt)
              have HBW := HB
              replace HB := Hd.mk (bel_then HB.out hb)
              replace HE : Hd (Env X5 [⟨w.heap.size, 95, [.int .i64 0, .int .i64 0, .int .i64 0, .int .i64 0]⟩, ⟨g5, 95, [.int .i64 l.a, .int .i64 l.b, .int .i64 l.c, .int .i64 l.d]⟩]) := ⟨HE.out.to hb⟩
              have HLS := HL0
              have e24 : vs 24 = .agg #[.int .i64 l.a, .int .i64 l.b, .int .i64 l.c, .int .i64 l.d] := hv 0 (by decide) rfl
              simp only [putAll, List.foldl_cons, List.foldl_nil, Act.put, List.setIfInBounds_toArray, List.set_cons_succ, List.set_cons_zero, List.drop_succ_cons, List.drop_zero, e24]
              clear hv hal hne hb HL0 HBW HLS e24
              refine wpList_st rfl rfl rfl rfl rfl (sto_L (HE.out.get 0 rfl)) ?_
              have HE' : Env (putL X5 w.heap.size 0 [.int .i64 l.a, .int .i64 l.b, .int .i64 l.c, .int .i64 l.d]) [⟨w.heap.size, 95, [.int .i64 l.a, .int .i64 l.b, .int .i64 l.c, .int .i64 l.d]⟩, ⟨g5, 95, [.int .i64 l.a, .int .i64 l.b, .int .i64 l.c, .int .i64 l.d]⟩] := HE.out.putF 0 rfl rfl
              have HB' := putL_below (show w.heap.size ≤ w.heap.size from by omega) [.int .i64 l.a, .int .i64 l.b, .int .i64 l.c, .int .i64 l.d] _ 0 HB.out
              generalize putL X5 w.heap.size 0 [.int .i64 l.a, .int .i64 l.b, .int .i64 l.c, .int .i64 l.d] = X6 at *
              replace HE := Hd.mk HE'
              replace HB := Hd.mk HB'
              clear HE' HB'
              go_wp2_with fail
              have k0a := HE.out.cell 0 0 rfl rfl
              have k0b := HE.out.cell 0 1 rfl rfl
              have k0c := HE.out.cell 0 2 rfl rfl
              have k0d := HE.out.cell 0 3 rfl rfl
              refine bodyPost_ret (v := .agg #[.int .i64 l.a, .int .i64 l.b, .int .i64 l.c, .int .i64 l.d]) (by simp [results, Try.results60, go_sem, k0a, k0b, k0c, k0d]) rfl ?_
              exact ⟨_, rfl, HB.out, by rw [← HKT.out, ← HL.out]; rfl⟩
  · have hf' : f = false := by simpa using hf
    subst hf'
    clear hf
    go_enter Try.func60, Try.ntmps60
    go_upto_region 1 with fail
    obtain ⟨W0, hW0⟩ : ∃ W : World, W = w.alloc (.cells #[.int .i64 0, .int .i64 0, .int .i64 0, .int .i64 0] 95) := ⟨_, rfl⟩
    rw [← hW0]
    obtain ⟨he, hb⟩ := env_one hW0
    have HE := Hd.mk he
    have HB := Hd.mk hb
    clear he hb hW0
    refine wp_region_vd 2 [6, 5] [0] [1] 95 [.int .i64 0, .int .i64 0, .int .i64 0, .int .i64 0] [isV (.agg #[.int .i64 1, .int .i64 0, .int .i64 0, .int .i64 1]), SP.any] (by rfl) alloc_L ?_ ?_
    · intro qi qh qA aa wx hb hs hd
      match qi, qh, qA with
      | 0, _, _ => exact .inl ⟨rfl, ⟨_, op_buL rfl rfl rfl rfl rfl, rfl⟩⟩
      | 1, _, h => cases h
      | qi + 2, h, _ => omega
    · intro vs X1 hb hv hal hne
      have HL0 := Hd.mk (HE.out.lt)
      have HBW := HB
      replace HB := Hd.mk (bel_then HB.out hb)
      replace HE : Hd (Env X1 [⟨w.heap.size, 95, [.int .i64 0, .int .i64 0, .int .i64 0, .int .i64 0]⟩]) := ⟨HE.out.to hb⟩
      have HLS := HL0
      have e6 : vs 6 = .agg #[.int .i64 1, .int .i64 0, .int .i64 0, .int .i64 1] := hv 0 (by decide) rfl
      obtain ⟨g5, e5, l5, b5⟩ : ∃ g, vs 5 = .pointer (some ⟨g, 0, none⟩) ∧ _ := hal 1 rfl
      replace HE : Hd (Env X1 [⟨w.heap.size, 95, [.int .i64 0, .int .i64 0, .int .i64 0, .int .i64 0]⟩, ⟨g5, 95, [.int .i64 0, .int .i64 0, .int .i64 0, .int .i64 0]⟩]) := ⟨Env.addne (e := ⟨g5, 95, [.int .i64 0, .int .i64 0, .int .i64 0, .int .i64 0]⟩) HE.out b5 (fun e' he => Nat.ne_of_lt (Nat.lt_of_lt_of_le (HL0.out e' he) l5))⟩
      have G5 : Hd (w.heap.size ≤ g5) := ⟨Nat.le_trans HBW.out.size l5⟩
      simp only [putAll, List.foldl_cons, List.foldl_nil, Act.put, List.setIfInBounds_toArray, List.set_cons_succ, List.set_cons_zero, List.drop_succ_cons, List.drop_zero, e6, e5]
      clear hv hal hne hb HL0 HBW HLS e6 e5 l5 b5
      refine wpList_st rfl rfl rfl rfl rfl (sto_L (HE.out.get 1 rfl)) ?_
      have HE' : Env (putL X1 g5 0 [.int .i64 1, .int .i64 0, .int .i64 0, .int .i64 1]) [⟨w.heap.size, 95, [.int .i64 0, .int .i64 0, .int .i64 0, .int .i64 0]⟩, ⟨g5, 95, [.int .i64 1, .int .i64 0, .int .i64 0, .int .i64 1]⟩] := HE.out.putF 1 rfl rfl
      have HB' := putL_below (show w.heap.size ≤ g5 from G5.out) [.int .i64 1, .int .i64 0, .int .i64 0, .int .i64 1] _ 0 HB.out
      generalize putL X1 g5 0 [.int .i64 1, .int .i64 0, .int .i64 0, .int .i64 1] = X2 at *
      replace HE := Hd.mk HE'
      replace HB := Hd.mk HB'
      clear HE' HB'
      go_wp2_with fail
      go_loopw [10] (fun s10 wr => ∃ k : Nat, k ≤ T ∧ s10 = .int .i64 k ∧ Env wr [⟨w.heap.size, 95, [.int .i64 0, .int .i64 0, .int .i64 0, .int .i64 0]⟩, ⟨g5, 95, linv (lin false k)⟩] ∧ Below w.heap.size w wr) (fun s10 _ => T - (intOf s10).toNat)
      case atStart => exact ⟨0, Nat.zero_le _, rfl, HE.out, HB.out⟩
      case round =>
        obtain ⟨k, hk, rfl, he, hb⟩ := hrel
        have htb := lin_bound false k
        have HTS := Hd.mk (show lin false (k + 1) = (let l := lin false k; ⟨-l.c, -l.d, l.a, l.b⟩) from rfl)
        obtain ⟨l, hl⟩ : ∃ l, l = lin false k := ⟨_, rfl⟩
        rw [← hl] at he htb HTS
        have HL := Hd.mk hl
        have HBo := HB
        clear HB HE
        have HB := Hd.mk hb
        have HE : Hd (Env wr [⟨w.heap.size, 95, [.int .i64 0, .int .i64 0, .int .i64 0, .int .i64 0]⟩, ⟨g5, 95, [.int .i64 l.a, .int .i64 l.b, .int .i64 l.c, .int .i64 l.d]⟩]) := ⟨he⟩
        clear hl he hb HBo
        by_cases hlt : k < T
        · go_upto_region 6 with fail
          refine wp_region_vd 11 [12, 13, 14, 15, 16, 17, 18, 19, 20, 21, 22] [0, 2, 3, 5, 6, 8, 10] [] 84 [.int .i64 0, .int .i64 0] [isV (.pointer (some ⟨g5, 2, none⟩)), isV (.int .i64 l.c), isV (.int .i64 (-l.c)), isV (.pointer (some ⟨g5, 3, none⟩)), isV (.int .i64 l.d), isV (.int .i64 (-l.d)), isV (.pointer (some ⟨g5, 0, none⟩)), isV (.int .i64 l.a), isV (.pointer (some ⟨g5, 1, none⟩)), isV (.int .i64 l.b), isV (.agg #[.int .i64 (-l.c), .int .i64 (-l.d), .int .i64 l.a, .int .i64 l.b])] (by rfl) alloc_Z ?_ ?_
          · intro qi qh qA aa wx hb hs hd
            match qi, qh, qA with
            | 0, _, _ => exact .inl ⟨rfl, ⟨_, op_faL2 rfl (hs 5 rfl), rfl⟩⟩
            | 1, _, _ => exact .inl ⟨rfl, op_ldI rfl rfl (hd 0 rfl) ((HE.out.to hb).cell 1 2 rfl rfl)⟩
            | 2, _, _ => exact .inl ⟨rfl, ⟨_, op_neg (by unfold Fit; omega) rfl (hd 1 rfl), rfl⟩⟩
            | 3, _, _ => exact .inl ⟨rfl, ⟨_, op_faL3 rfl (hs 5 rfl), rfl⟩⟩
            | 4, _, _ => exact .inl ⟨rfl, op_ldI rfl rfl (hd 3 rfl) ((HE.out.to hb).cell 1 3 rfl rfl)⟩
            | 5, _, _ => exact .inl ⟨rfl, ⟨_, op_neg (by unfold Fit; omega) rfl (hd 4 rfl), rfl⟩⟩
            | 6, _, _ => exact .inl ⟨rfl, ⟨_, op_faL0 rfl (hs 5 rfl), rfl⟩⟩
            | 7, _, _ => exact .inl ⟨rfl, op_ldI rfl rfl (hd 6 rfl) ((HE.out.to hb).cell 1 0 rfl rfl)⟩
            | 8, _, _ => exact .inl ⟨rfl, ⟨_, op_faL1 rfl (hs 5 rfl), rfl⟩⟩
            | 9, _, _ => exact .inl ⟨rfl, op_ldI rfl rfl (hd 8 rfl) ((HE.out.to hb).cell 1 1 rfl rfl)⟩
            | 10, _, _ => exact .inl ⟨rfl, ⟨_, op_buL rfl (hd 2 rfl) (hd 5 rfl) (hd 7 rfl) (hd 9 rfl), rfl⟩⟩
            | qi + 11, h, _ => omega
          · intro vs X3 hb hv hal hne
            have HL0 := Hd.mk (HE.out.lt)
            have HBW := HB
            replace HB := Hd.mk (bel_then HB.out hb)
            replace HE : Hd (Env X3 [⟨w.heap.size, 95, [.int .i64 0, .int .i64 0, .int .i64 0, .int .i64 0]⟩, ⟨g5, 95, [.int .i64 l.a, .int .i64 l.b, .int .i64 l.c, .int .i64 l.d]⟩]) := ⟨HE.out.to hb⟩
            have HLS := HL0
            have e22 : vs 22 = .agg #[.int .i64 (-l.c), .int .i64 (-l.d), .int .i64 l.a, .int .i64 l.b] := hv 10 (by decide) rfl
            simp only [putAll, List.foldl_cons, List.foldl_nil, Act.put, List.setIfInBounds_toArray, List.set_cons_succ, List.set_cons_zero, List.drop_succ_cons, List.drop_zero, e22]
            generalize vs 12 = s12
            generalize vs 13 = s13
            generalize vs 14 = s14
            generalize vs 15 = s15
            generalize vs 16 = s16
            generalize vs 17 = s17
            generalize vs 18 = s18
            generalize vs 19 = s19
            generalize vs 20 = s20
            generalize vs 21 = s21
            clear hv hal hne hb HL0 HBW HLS e22
            refine wpList_st rfl rfl rfl rfl rfl (sto_L (HE.out.get 1 rfl)) ?_
            have HE' : Env (putL X3 g5 0 [.int .i64 (-l.c), .int .i64 (-l.d), .int .i64 l.a, .int .i64 l.b]) [⟨w.heap.size, 95, [.int .i64 0, .int .i64 0, .int .i64 0, .int .i64 0]⟩, ⟨g5, 95, [.int .i64 (-l.c), .int .i64 (-l.d), .int .i64 l.a, .int .i64 l.b]⟩] := HE.out.putF 1 rfl rfl
            have HB' := putL_below (show w.heap.size ≤ g5 from G5.out) [.int .i64 (-l.c), .int .i64 (-l.d), .int .i64 l.a, .int .i64 l.b] _ 0 HB.out
            generalize putL X3 g5 0 [.int .i64 (-l.c), .int .i64 (-l.d), .int .i64 l.a, .int .i64 l.b] = X4 at *
            replace HE := Hd.mk HE'
            replace HB := Hd.mk HB'
            clear HE' HB'
            go_wp2_with fail
            go_roundw
            case rel => exact ⟨k + 1, by omega, by go_num, by rw [HTS.out]; exact HE.out, HB.out⟩
            case measure => simp [intOf]; omega
        · have HKT : Hd (k = T) := ⟨by omega⟩
          go_upto_region 8 with fail
          refine wp_region_vd 1 [24] [] [] 84 [.int .i64 0, .int .i64 0] [isV (.agg #[.int .i64 l.a, .int .i64 l.b, .int .i64 l.c, .int .i64 l.d])] (by rfl) alloc_Z ?_ ?_
          · intro qi qh qA aa wx hb hs hd
            match qi, qh, qA with
            | 0, _, _ => exact .inl ⟨rfl, op_ldL rfl rfl (hs 5 rfl) ((HE.out.to hb).get 1 rfl)⟩
            | qi + 1, h, _ => omega
          · intro vs X3 hb hv hal hne
            have HL0 := Hd.mk (HE.out.lt)
            have HBW := HB
            replace HB := Hd.mk (bel_then HB.out hb)
            replace HE : Hd (Env X3 [⟨w.heap.size, 95, [.int .i64 0, .int .i64 0, .int .i64 0, .int .i64 0]⟩, ⟨g5, 95, [.int .i64 l.a, .int .i64 l.b, .int .i64 l.c, .int .i64 l.d]⟩]) := ⟨HE.out.to hb⟩
            have HLS := HL0
            have e24 : vs 24 = .agg #[.int .i64 l.a, .int .i64 l.b, .int .i64 l.c, .int .i64 l.d] := hv 0 (by decide) rfl
            simp only [putAll, List.foldl_cons, List.foldl_nil, Act.put, List.setIfInBounds_toArray, List.set_cons_succ, List.set_cons_zero, List.drop_succ_cons, List.drop_zero, e24]
            clear hv hal hne hb HL0 HBW HLS e24
            refine wpList_st rfl rfl rfl rfl rfl (sto_L (HE.out.get 0 rfl)) ?_
            have HE' : Env (putL X3 w.heap.size 0 [.int .i64 l.a, .int .i64 l.b, .int .i64 l.c, .int .i64 l.d]) [⟨w.heap.size, 95, [.int .i64 l.a, .int .i64 l.b, .int .i64 l.c, .int .i64 l.d]⟩, ⟨g5, 95, [.int .i64 l.a, .int .i64 l.b, .int .i64 l.c, .int .i64 l.d]⟩] := HE.out.putF 0 rfl rfl
            have HB' := putL_below (show w.heap.size ≤ w.heap.size from by omega) [.int .i64 l.a, .int .i64 l.b, .int .i64 l.c, .int .i64 l.d] _ 0 HB.out
            generalize putL X3 w.heap.size 0 [.int .i64 l.a, .int .i64 l.b, .int .i64 l.c, .int .i64 l.d] = X4 at *
            replace HE := Hd.mk HE'
            replace HB := Hd.mk HB'
            clear HE' HB'
            go_wp2_with fail
            have k0a := HE.out.cell 0 0 rfl rfl
            have k0b := HE.out.cell 0 1 rfl rfl
            have k0c := HE.out.cell 0 2 rfl rfl
            have k0d := HE.out.cell 0 3 rfl rfl
            refine bodyPost_ret (v := .agg #[.int .i64 l.a, .int .i64 l.b, .int .i64 l.c, .int .i64 l.d]) (by simp [results, Try.results60, go_sem, k0a, k0b, k0c, k0d]) rfl ?_
            exact ⟨_, rfl, HB.out, by rw [← HKT.out, ← HL.out]; rfl⟩
end Go.Proofs.Ytddbmckbankmeaa
set_option linter.unusedVariables false
set_option linter.unusedSimpArgs false
namespace Go.Proofs.Ytddbmckbankmeaa
open Go.RowKit
theorem mul_small {a b : Int} (ha : 0 ≤ a ∧ a ≤ 8) (hb : 0 ≤ b ∧ b ≤ 8) : 0 ≤ a * b ∧ a * b ≤ 64 := by
  obtain ⟨n, rfl⟩ : ∃ n : Nat, a = n := ⟨a.toNat, by omega⟩
  obtain ⟨m, rfl⟩ : ∃ n : Nat, b = n := ⟨b.toNat, by omega⟩
  have := Nat.mul_le_mul (show n ≤ 8 by omega) (show m ≤ 8 by omega)
  exact ⟨by rw [← Int.natCast_mul]; omega, by rw [← Int.natCast_mul]; omega⟩
structure Okm (W H x y t : Int) : Prop where
  w : 1 ≤ W ∧ W ≤ 8
  h : 1 ≤ H ∧ H ≤ 8
  x : 0 ≤ x ∧ x < W
  y : 0 ≤ y ∧ y < H
  t : 0 ≤ t ∧ t < 4
theorem okm {W H x y t : Int} (h1 : sizeB W H = true) (h2 : alB W H x y t = true) : Okm W H x y t := by
  unfold sizeB at h1
  unfold alB at h2
  simp only [Bool.and_eq_true, decide_eq_true_eq] at h1 h2
  exact ⟨h1.1, h1.2, ⟨h2.1.1.1.1.1.1, h2.1.1.1.1.1.2⟩, ⟨h2.1.1.1.1.2, h2.1.1.1.2⟩, ⟨h2.1.1.2, h2.1.2⟩⟩
theorem toC_lt {W H x y t i : Int} (f : Bool) (h : Okm W H x y t) : 0 ≤ toC W H x y t f i ∧ toC W H x y t f i < W * H := by
  unfold toC
  have hw := h.w
  have hh := h.h
  have a1 := Int.emod_nonneg ((trn f (i % W) (i / W) t.toNat).2 + y) (show H ≠ 0 by omega)
  have a2 := Int.emod_lt_of_pos ((trn f (i % W) (i / W) t.toNat).2 + y) (show 0 < H by omega)
  have b1 := Int.emod_nonneg ((trn f (i % W) (i / W) t.toNat).1 + x) (show W ≠ 0 by omega)
  have b2 := Int.emod_lt_of_pos ((trn f (i % W) (i / W) t.toNat).1 + x) (show 0 < W by omega)
  obtain ⟨p, hp⟩ : ∃ p, p = ((trn f (i % W) (i / W) t.toNat).2 + y) % H := ⟨_, rfl⟩
  rw [← hp] at a1 a2 ⊢
  have c0 := Int.mul_nonneg a1 (show 0 ≤ W by omega)
  have c1 := Int.mul_le_mul_of_nonneg_right (show p ≤ H - 1 by omega) (show 0 ≤ W by omega)
  rw [Int.sub_mul, Int.one_mul, Int.mul_comm H W] at c1
  omega
set_option maxRecDepth 100000 in
set_option maxHeartbeats 1000000 in
theorem to_got (Wd Ht x y t ci : Int) (f : Bool) (hk : Okm Wd Ht x y t) (hci : 0 ≤ ci ∧ ci < 64) (w : World) :
    Calls Try.prog 64 #[.agg #[.int .i64 Wd, .int .i64 Ht], .agg #[.int .i64 x, .int .i64 y, .int .i64 t, .bool f], .int .i64 ci] w (Got w (isV (.int .i64 (toC Wd Ht x y t f ci))).p) := by
  obtain ⟨hw, hh, hx, hy, ht⟩ := hk
  have HT := Hd.mk ht
  have r1 := Int.emod_nonneg ci (show Wd ≠ 0 by omega)
  have r2 := Int.emod_lt_of_pos ci (show 0 < Wd by omega)
  have r3 : 0 ≤ ci / Wd := Int.ediv_nonneg hci.1 (by omega)
  have r4 : ci / Wd ≤ 64 := by have := Int.ediv_le_self Wd hci.1; omega
  have E1 := Hd.mk (tmod_nonneg (j := Wd) hci.1)
  have E2 := Hd.mk (tdiv_nonneg (j := Wd) hci.1)
  obtain ⟨tb1, tb2⟩ := trn_bound f (x := ci % Wd) (y := ci / Wd) (b := 64) (by omega) (by omega) t.toNat
  have res : toC Wd Ht x y t f ci = ((trn f (ci % Wd) (ci / Wd) t.toNat).2 + y) % Ht * Wd + ((trn f (ci % Wd) (ci / Wd) t.toNat).1 + x) % Wd := rfl
  rw [res]
  clear res
  have LT := Hd.mk (lin_trn f (ci % Wd) (ci / Wd) t.toNat)
  obtain ⟨a, ha⟩ : ∃ a, a = (trn f (ci % Wd) (ci / Wd) t.toNat).1 := ⟨_, rfl⟩
  obtain ⟨b, hb⟩ : ∃ b, b = (trn f (ci % Wd) (ci / Wd) t.toNat).2 := ⟨_, rfl⟩
  rw [← ha] at tb1 ⊢
  rw [← hb] at tb2 ⊢
  have HA := Hd.mk ha.symm
  have HBB := Hd.mk hb.symm
  have HLA : Hd ((lin f t.toNat).a * (ci % Wd) + (lin f t.toNat).b * (ci / Wd) = a) := ⟨(congrArg Prod.fst LT.out).trans HA.out⟩
  have HLB : Hd ((lin f t.toNat).c * (ci % Wd) + (lin f t.toNat).d * (ci / Wd) = b) := ⟨(congrArg Prod.snd LT.out).trans HBB.out⟩
  have s1 := Int.emod_nonneg (a + x) (show Wd ≠ 0 by omega)
  have s2 := Int.emod_lt_of_pos (a + x) (show 0 < Wd by omega)
  have s3 := Int.emod_nonneg (b + y) (show Ht ≠ 0 by omega)
  have s4 := Int.emod_lt_of_pos (b + y) (show 0 < Ht by omega)
  have m1 := mul_small (a := (b + y) % Ht) (b := Wd) (by omega) (by omega)
  clear ha hb
  go_enter Try.func64, Try.ntmps64
  go_upto_region 1 with fail
  obtain ⟨W0, hW0⟩ : ∃ W : World, W = (w.alloc (.cells #[.int .i64 Wd, .int .i64 Ht] 84)).alloc (.cells #[.int .i64 x, .int .i64 y, .int .i64 t, .bool f] 31) := ⟨_, rfl⟩
  rw [← hW0]
  obtain ⟨he, hb⟩ := env_two hW0
  have HE := Hd.mk he
  have HB := Hd.mk hb
  clear he hb hW0
  refine wp_region_vs 15 [10, 11, 12, 13, 14, 15, 16, 17, 18, 19, 9, 20, 21, 7, 8] [1, 2, 5, 6, 10, 11, 12, 13, 14] [] 84 [.int .i64 0, .int .i64 0] [isV (.agg #[.int .i64 x, .int .i64 y, .int .i64 t, .bool f]), isV (.int .i64 ci), isV (.pointer (some ⟨w.heap.size, 0, none⟩)), isV (.int .i64 Wd), isV (.int .i64 (ci % Wd)), isV (.int .i64 ci), isV (.pointer (some ⟨w.heap.size, 0, none⟩)), isV (.int .i64 Wd), isV (.int .i64 (ci / Wd)), isP (isV (.int .i64 ((trn f (ci % Wd) (ci / Wd) (t).toNat).1))) (isV (.int .i64 ((trn f (ci % Wd) (ci / Wd) (t).toNat).2))), isP (isV (.int .i64 ((trn f (ci % Wd) (ci / Wd) (t).toNat).1))) (isV (.int .i64 ((trn f (ci % Wd) (ci / Wd) (t).toNat).2))), isV (.int .i64 a), isV (.int .i64 b), isV (.int .i64 a), isV (.int .i64 b)] (by kernel_rfl) (by kernel_rfl) (by kernel_rfl) (by rfl) alloc_Z (fun d v c a w h => by cases d <;> exact h) ?_ ?_
  · intro qi qh qA aa wx hb hs hd
    match qi, qh, qA with
    | 0, _, _ => exact op_ldM rfl rfl (hs 4 rfl) ((HE.out.to hb).get 1 rfl)
    | 1, _, _ => exact op_mv rfl (hs 2 rfl)
    | 2, _, _ => exact ⟨_, op_faZ0 rfl (hs 3 rfl), rfl⟩
    | 3, _, _ => exact op_ldI rfl rfl (hd 2 rfl) ((HE.out.to hb).cell 0 0 rfl rfl)
    | 4, _, _ => exact wp_b (int_eq E1.out) (op_run rfl (op_rem (by omega) (by unfold Fit; omega) (by omega) rfl (hd 1 rfl) (hd 3 rfl) _) rfl)
    | 5, _, _ => exact op_mv rfl (hs 2 rfl)
    | 6, _, _ => exact ⟨_, op_faZ0 rfl (hs 3 rfl), rfl⟩
    | 7, _, _ => exact op_ldI rfl rfl (hd 6 rfl) ((HE.out.to hb).cell 0 0 rfl rfl)
    | 8, _, _ => exact wp_b (int_eq E2.out) (op_run rfl (op_quo (by omega) (by unfold Fit; omega) (by omega) rfl (hd 5 rfl) (hd 7 rfl) _) rfl)
    | 9, _, _ => exact op_call3 rfl rfl Try.call58 (by rw [(show aa.eval (.tmp 10) = .agg #[.int .i64 x, .int .i64 y, .int .i64 t, .bool f] from (hd 0 rfl)), (show aa.eval (.tmp 14) = .int .i64 (ci % Wd) from (hd 4 rfl)), (show aa.eval (.tmp 18) = .int .i64 (ci / Wd) from (hd 8 rfl))]; exact turned_got x y t f (ci % Wd) (ci / Wd) (by omega) (by omega) (by omega) _)
    | 10, _, _ => exact op_mv rfl (hd 9 rfl)
    | 11, _, _ => exact pure_b (int_eq HA.out) (op_fst rfl (hd 10 rfl))
    | 12, _, _ => exact pure_b (int_eq HBB.out) (op_snd rfl (hd 10 rfl))
    | 13, _, _ => exact op_asg rfl (hd 11 rfl)
    | 14, _, _ => exact op_asg rfl (hd 12 rfl)
    | qi + 15, h, _ => omega
  · intro vs X1 hb hv hal hne
    have HL0 := Hd.mk (HE.out.lt)
    have HBW := HB
    replace HB := Hd.mk (bel_then HB.out hb)
    replace HE : Hd (Env X1 [⟨w.heap.size, 84, [.int .i64 Wd, .int .i64 Ht]⟩, ⟨w.heap.size + 1, 31, [.int .i64 x, .int .i64 y, .int .i64 t, .bool f]⟩]) := ⟨HE.out.to hb⟩
    have HLS := HL0
    have e7 : vs 7 = .int .i64 a := hv 13 (by decide) rfl
    have e8 : vs 8 = .int .i64 b := hv 14 (by decide) rfl
    simp only [putAll, List.foldl_cons, List.foldl_nil, Act.put, List.setIfInBounds_toArray, List.set_cons_succ, List.set_cons_zero, List.drop_succ_cons, List.drop_zero, e7, e8]
    generalize vs 10 = s10
    generalize vs 11 = s11
    generalize vs 12 = s12
    generalize vs 13 = s13
    generalize vs 14 = s14
    generalize vs 15 = s15
    generalize vs 16 = s16
    generalize vs 17 = s17
    generalize vs 18 = s18
    generalize vs 19 = s19
    generalize vs 9 = s9
    generalize vs 20 = s20
    generalize vs 21 = s21
    clear hv hal hne hb HL0 HBW HLS e7 e8
    go_upto_region 2 with fail
    refine wp_region_vd 13 [23, 24, 25, 26, 27, 28, 29, 30, 31, 32, 22, 33, 34] [1, 2, 4, 5, 6, 8, 10, 11, 12] [] 84 [.int .i64 0, .int .i64 0] [isV (.agg #[.int .i64 Wd, .int .i64 Ht]), isV (.int .i64 a), isV (.pointer (some ⟨w.heap.size + 1, 0, none⟩)), isV (.int .i64 x), isV (.int .i64 (a + x)), isV (.int .i64 b), isV (.pointer (some ⟨w.heap.size + 1, 1, none⟩)), isV (.int .i64 y), isV (.int .i64 (b + y)), isP (isV (.int .i64 ((a + x) % Wd))) (isV (.int .i64 ((b + y) % Ht))), isP (isV (.int .i64 ((a + x) % Wd))) (isV (.int .i64 ((b + y) % Ht))), isV (.int .i64 ((a + x) % Wd)), isV (.int .i64 ((b + y) % Ht))] (by rfl) alloc_Z ?_ ?_
    · intro qi qh qA aa wx hb hs hd
      match qi, qh, qA with
      | 0, _, _ => exact .inl ⟨rfl, op_ldZ rfl rfl (hs 3 rfl) ((HE.out.to hb).get 0 rfl)⟩
      | 1, _, _ => exact .inl ⟨rfl, op_mv rfl (hs 7 rfl)⟩
      | 2, _, _ => exact .inl ⟨rfl, ⟨_, op_faM0 rfl (hs 4 rfl), rfl⟩⟩
      | 3, _, _ => exact .inl ⟨rfl, op_ldI rfl rfl (hd 2 rfl) ((HE.out.to hb).cell 1 0 rfl rfl)⟩
      | 4, _, _ => exact .inl ⟨rfl, ⟨_, op_add (by unfold Fit; omega) rfl (hd 1 rfl) (hd 3 rfl), rfl⟩⟩
      | 5, _, _ => exact .inl ⟨rfl, op_mv rfl (hs 8 rfl)⟩
      | 6, _, _ => exact .inl ⟨rfl, ⟨_, op_faM1 rfl (hs 4 rfl), rfl⟩⟩
      | 7, _, _ => exact .inl ⟨rfl, op_ldI rfl rfl (hd 6 rfl) ((HE.out.to hb).cell 1 1 rfl rfl)⟩
      | 8, _, _ => exact .inl ⟨rfl, ⟨_, op_add (by unfold Fit; omega) rfl (hd 5 rfl) (hd 7 rfl), rfl⟩⟩
      | 9, _, _ => exact .inl ⟨rfl, op_call3 rfl rfl Try.call59 (by rw [(show aa.eval (.tmp 23) = .agg #[.int .i64 Wd, .int .i64 Ht] from (hd 0 rfl)), (show aa.eval (.tmp 27) = .int .i64 (a + x) from (hd 4 rfl)), (show aa.eval (.tmp 31) = .int .i64 (b + y) from (hd 8 rfl))]; exact wrap_got Wd Ht (a + x) (b + y) (by omega) (by omega) (by omega) (by omega) _)⟩
      | 10, _, _ => exact .inl ⟨rfl, op_mv rfl (hd 9 rfl)⟩
      | 11, _, _ => exact .inl ⟨rfl, op_fst rfl (hd 10 rfl)⟩
      | 12, _, _ => exact .inl ⟨rfl, op_snd rfl (hd 10 rfl)⟩
      | qi + 13, h, _ => omega
    · intro vs X2 hb hv hal hne
      have HL0 := Hd.mk (HE.out.lt)
      have HBW := HB
      replace HB := Hd.mk (bel_then HB.out hb)
      replace HE : Hd (Env X2 [⟨w.heap.size, 84, [.int .i64 Wd, .int .i64 Ht]⟩, ⟨w.heap.size + 1, 31, [.int .i64 x, .int .i64 y, .int .i64 t, .bool f]⟩]) := ⟨HE.out.to hb⟩
      have HLS := HL0
      have e33 : vs 33 = .int .i64 ((a + x) % Wd) := hv 11 (by decide) rfl
      have e34 : vs 34 = .int .i64 ((b + y) % Ht) := hv 12 (by decide) rfl
      simp only [putAll, List.foldl_cons, List.foldl_nil, Act.put, List.setIfInBounds_toArray, List.set_cons_succ, List.set_cons_zero, List.drop_succ_cons, List.drop_zero, e33, e34]
      generalize vs 23 = s23
      generalize vs 24 = s24
      generalize vs 25 = s25
      generalize vs 26 = s26
      generalize vs 27 = s27
      generalize vs 28 = s28
      generalize vs 29 = s29
      generalize vs 30 = s30
      generalize vs 31 = s31
      generalize vs 32 = s32
      generalize vs 22 = s22
      clear hv hal hne hb HL0 HBW HLS e33 e34
      go_upto_region 3 with fail
      refine wp_region_vd 6 [35, 36, 37, 38, 39, 40] [0, 1, 3, 4, 5] [] 84 [.int .i64 0, .int .i64 0] [isV (.int .i64 ((b + y) % Ht)), isV (.pointer (some ⟨w.heap.size, 0, none⟩)), isV (.int .i64 Wd), isV (.int .i64 (((b + y) % Ht) * Wd)), isV (.int .i64 ((a + x) % Wd)), isV (.int .i64 ((((b + y) % Ht) * Wd) + ((a + x) % Wd)))] (by rfl) alloc_Z ?_ ?_
      · intro qi qh qA aa wx hb hs hd
        match qi, qh, qA with
        | 0, _, _ => exact .inl ⟨rfl, op_mv rfl (hs 8 rfl)⟩
        | 1, _, _ => exact .inl ⟨rfl, ⟨_, op_faZ0 rfl (hs 3 rfl), rfl⟩⟩
        | 2, _, _ => exact .inl ⟨rfl, op_ldI rfl rfl (hd 1 rfl) ((HE.out.to hb).cell 0 0 rfl rfl)⟩
        | 3, _, _ => exact .inl ⟨rfl, ⟨_, op_mul (by unfold Fit; omega) rfl (hd 0 rfl) (hd 2 rfl), rfl⟩⟩
        | 4, _, _ => exact .inl ⟨rfl, op_mv rfl (hs 7 rfl)⟩
        | 5, _, _ => exact .inl ⟨rfl, ⟨_, op_add (by unfold Fit; omega) rfl (hd 3 rfl) (hd 4 rfl), rfl⟩⟩
        | qi + 6, h, _ => omega
      · intro vs X3 hb hv hal hne
        have HL0 := Hd.mk (HE.out.lt)
        have HBW := HB
        replace HB := Hd.mk (bel_then HB.out hb)
        replace HE : Hd (Env X3 [⟨w.heap.size, 84, [.int .i64 Wd, .int .i64 Ht]⟩, ⟨w.heap.size + 1, 31, [.int .i64 x, .int .i64 y, .int .i64 t, .bool f]⟩]) := ⟨HE.out.to hb⟩
        have HLS := HL0
        have e40 : vs 40 = .int .i64 ((((b + y) % Ht) * Wd) + ((a + x) % Wd)) := hv 5 (by decide) rfl
        simp only [putAll, List.foldl_cons, List.foldl_nil, Act.put, List.setIfInBounds_toArray, List.set_cons_succ, List.set_cons_zero, List.drop_succ_cons, List.drop_zero, e40]
        generalize vs 35 = s35
        generalize vs 36 = s36
        generalize vs 37 = s37
        generalize vs 38 = s38
        generalize vs 39 = s39
        clear hv hal hne hb HL0 HBW HLS e40
        go_wp2_with fail
        go_ret
        exact ⟨_, rfl, HB.out, rfl⟩
end Go.Proofs.Ytddbmckbankmeaa
set_option linter.unusedVariables false
namespace Go.Proofs.Ytddbmckbankmeaa
open Go.RowKit
theorem block_of_add (a : Addr) (n : Nat) : (a.add n).block = a.block := by unfold Addr.add; split <;> rfl
def Reads (w : World) (B size : Nat) (A : Option Addr) (n : Nat) (xs : List Value) : Prop :=
  xs.length = n * size ∧ (0 < n → ∃ ad, A = some ad ∧ ad.block < B ∧ ∀ j u, xs[j]? = some u → w.cell? (ad.add j) = some u)
section
variable {w w' : World} {B B' size n : Nat} {A : Option Addr} {xs : List Value}
theorem Reads.at_ {k : Nat} (h : Reads w B 1 A n xs) (hk : k < n) : ∃ ad u, A = some ad ∧ ad.block < B ∧ xs[k]? = some u ∧ w.cell? (ad.add k) = some u := by
  obtain ⟨ad, e, hb, hc⟩ := h.2 (by omega)
  have hl : k < xs.length := by have := h.1; omega
  exact ⟨ad, xs[k], e, hb, List.getElem?_eq_getElem hl, hc k _ (List.getElem?_eq_getElem hl)⟩
theorem Reads.keep (h : Reads w B size A n xs) (hk : ∀ p : Addr, p.block < B → w'.cell? p = w.cell? p) : Reads w' B size A n xs :=
  ⟨h.1, fun hn => by
    obtain ⟨ad, e, hb, hc⟩ := h.2 hn
    exact ⟨ad, e, hb, fun j u hu => (hk _ (by rw [block_of_add]; exact hb)).trans (hc j u hu)⟩⟩
theorem Reads.drew (h : Reads w B size A n xs) : Reads w.drew B size A n xs := h
theorem Reads.drewN (h : Reads w B size A n xs) (k : Nat) : Reads (w.drewN k) B size A n xs := h
theorem Reads.alloc (h : Reads w B size A n xs) (hB : B ≤ w.heap.size) (o : Obj) : Reads (w.alloc o) B size A n xs := h.keep fun p hp => World.cell?_alloc_lt w o p (by omega)
theorem Reads.setCell (h : Reads w B size A n xs) {p : Addr} (hB : B ≤ p.block) (u : Value) : Reads (w.setCell p u) B size A n xs :=
  h.keep fun q hq => World.cell?_setCell_other w p q u (fun e => by subst e; omega)
theorem Reads.grown (h : Reads w B size A n xs) {row : Option Nat} (hg : w.grownBy w' row) (hB : B ≤ w.heap.size) (hr : ∀ g, row = some g → B ≤ g) : Reads w' B size A n xs :=
  h.keep fun p hp => World.cell?_of_block (hg.block p.block (by omega) (fun e => by have := hr _ e.symm; omega))
end
section
variable {P : Program} (w : World)
theorem run_append_of_nil (base : Nat) (t ty e : TypeId) (i : TypeInfo) (size : Nat) (ht : P.underlying t = some (.slice e)) (hi : P.info? e = some i)
    (v : Value) (n : Nat) (xs : List Value) (hown : w.ownsRow base e size v n xs) (c : Nat) : (Builtin.append_ #[t, t] ty #[v, .slice none 0 c]).run P w = .ok v w := by
  rcases hown.2 with ⟨rfl, rfl⟩ | ⟨g, cap, cur, rfl, _, _, hnc, _⟩
  · simp [Builtin.append_, run_underlying ht, sizeOf, typeInfo, hi, Builtin.lenOf, Builtin.firstCells]
  · simp [Builtin.append_, run_underlying ht, sizeOf, typeInfo, hi, Builtin.lenOf, Builtin.firstCells, hnc, storeCells]
theorem run_append_any (base : Nat) (t ty e : TypeId) (i : TypeInfo) (z : Value) (size bytes : Nat) (ht : P.underlying t = some (.slice e)) (hi : P.info? e = some i) (hz : i.zero = some z)
    (hsize : i.size = size) (hby : i.bytes = bytes) (hzs : z.cells.size = size) (hsz : 0 < size)
    (v : Value) (n : Nat) (xs : List Value) (hown : w.ownsRow base e size v n xs)
    (B : Nat) (A : Option Addr) (m c : Nat) (news : List Value) (hr : Reads w B size A m news) (h1 : ∀ u ∈ news, u.oneCell' = true)
    (h63 : n + m ≤ maxLen) (hbytes : (n + m) * bytes ≤ 140737488355328) (hbase : base ≤ w.heap.size) :
    ∃ v' w', (Builtin.append_ #[t, t] ty #[v, .slice A m c]).run P w = .ok v' w' ∧ w'.ownsRow base e size v' (n + m) (xs ++ news) ∧ w.grownBy w' v.ownBlock ∧
      (v'.ownBlock = v.ownBlock ∨ v'.ownBlock = some w.heap.size) := by
  rcases A with _ | ad
  · have hm : m = 0 := by
      rcases Nat.eq_zero_or_pos m with h0 | h0
      · exact h0
      · obtain ⟨ad, h, _⟩ := hr.2 h0
        cases h
    subst hm
    have hn : news = [] := List.eq_nil_of_length_eq_zero (by simpa using hr.1)
    subst hn
    exact ⟨v, w, run_append_of_nil w base t ty e i size ht hi v n xs hown c, by simpa using hown, World.grownBy.refl w _, .inl rfl⟩
  · have hcells : ∀ j u, news[j]? = some u → w.cell? (ad.add j) = some u := by
      intro j u hu
      rcases Nat.eq_zero_or_pos m with h0 | h0
      · subst h0
        have hn : news = [] := List.eq_nil_of_length_eq_zero (by simpa using hr.1)
        subst hn
        simp at hu
      · obtain ⟨ad', h, _, hc⟩ := hr.2 h0
        injection h with h
        subst h
        exact hc j u hu
    obtain ⟨v', w', hrun, h2, h3, _, h5⟩ := run_append_own_at (P := P) w base t ty e i z size bytes ht hi hz hsize hby hzs hsz v n xs hown ad m c news hr.1 hcells h1 h63 hbytes hbase
    exact ⟨v', w', hrun, h2, h3, h5⟩
theorem wp_append_any {o : Oper} {a : Act} {K : Act → World → Prop} {Q : Exit → Act → World → Prop} (s x : Operand) (t : TypeId)
    (ho : o.op = .call { callee := .builtin .append, args := #[s, x], argTypes := #[t, t] })
    (base : Nat) (e : TypeId) (i : TypeInfo) (z : Value) (size bytes : Nat) (ht : P.underlying t = some (.slice e)) (hi : P.info? e = some i) (hz : i.zero = some z)
    (hsize : i.size = size) (hby : i.bytes = bytes) (hzs : z.cells.size = size) (hsz : 0 < size)
    (v : Value) (n : Nat) (xs : List Value) (hs : a.eval s = v) (hown : w.ownsRow base e size v n xs)
    (B : Nat) (A : Option Addr) (m c : Nat) (news : List Value) (hx : a.eval x = .slice A m c) (hr : Reads w B size A m news) (h1 : ∀ u ∈ news, u.oneCell' = true)
    (h63 : n + m ≤ maxLen) (hbytes : (n + m) * bytes ≤ 140737488355328) (hbase : base ≤ w.heap.size)
    (h : ∀ v' w', w'.ownsRow base e size v' (n + m) (xs ++ news) → w.grownBy w' v.ownBlock → (v'.ownBlock = v.ownBlock ∨ v'.ownBlock = some w.heap.size) → K (a.put o.dst v') w') : o.wp P a w K Q := by
  obtain ⟨v', w', hrun, h2, h3, h4⟩ := run_append_any (P := P) w base t o.type e i z size bytes ht hi hz hsize hby hzs hsz v n xs hown B A m c news hr h1 h63 hbytes hbase
  unfold Oper.wp execOp
  simp only [ho, resolve, invoke, builtin, Sem.run_bind, Sem.run_pure, Result.andThen_ok, List.map_toArray, List.map_cons, List.map_nil, hs, hx, hrun]
  exact h v' w' h2 h3 h4
theorem wpList_append_any {ops : Array Oper} {rest : List Oper} {o : Oper} {a : Act} {Q : Exit → Act → World → Prop} (hgd : o.guard = none) (s x : Operand) (t : TypeId)
    (ho : o.op = .call { callee := .builtin .append, args := #[s, x], argTypes := #[t, t] })
    (base : Nat) (e : TypeId) (i : TypeInfo) (z : Value) (size bytes : Nat) (ht : P.underlying t = some (.slice e)) (hi : P.info? e = some i) (hz : i.zero = some z)
    (hsize : i.size = size) (hby : i.bytes = bytes) (hzs : z.cells.size = size) (hsz : 0 < size)
    (v : Value) (n : Nat) (xs : List Value) (hs : a.eval s = v) (hown : w.ownsRow base e size v n xs)
    (B : Nat) (A : Option Addr) (m c : Nat) (news : List Value) (hx : a.eval x = .slice A m c) (hr : Reads w B size A m news) (h1 : ∀ u ∈ news, u.oneCell' = true)
    (h63 : n + m ≤ maxLen) (hbytes : (n + m) * bytes ≤ 140737488355328) (hbase : base ≤ w.heap.size)
    (h : ∀ v' w', w'.ownsRow base e size v' (n + m) (xs ++ news) → w.grownBy w' v.ownBlock → (v'.ownBlock = v.ownBlock ∨ v'.ownBlock = some w.heap.size) → wpList P ops Q rest (a.put o.dst v') w') : wpList P ops Q (o :: rest) a w :=
  wpList_plain hgd fun _ hK => wp_append_any w s x t ho base e i z size bytes ht hi hz hsize hby hzs hsz v n xs hs hown B A m c news hx hr h1 h63 hbytes hbase fun v' w' h2 h3 h4 => hK _ _ (h v' w' h2 h3 h4)
end
end Go.Proofs.Ytddbmckbankmeaa
