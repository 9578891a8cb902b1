/- The law StampApplies. -/
import Derived.Test.YtddbmckbankmeaaSw
set_option linter.unusedVariables false
set_option linter.unusedSimpArgs false
namespace Go.Proofs.Ytddbmckbankmeaa
open Go.RowKit
/-- A stamp that reads so. -/
def rdS (W H : Int) (xs : List Int) : SP := ⟨fun v w => ∃ A k, v = .agg #[.int .i64 W, .int .i64 H, .slice A xs.length k] ∧ RI w A xs, fun v w w' ⟨A, k, h1, h2⟩ hb => ⟨A, k, h1, h2.to hb⟩⟩
section
variable {w : World} {v v1 v2 : Value} {W H W' H' x y t : Int} {f : Bool} {xs ys : List Int} {lo : Nat} {A : Option Addr} {k n : Nat}
theorem rd_fs (h : (isFS lo W H xs).p v w) : (rdS W H xs).p v w := let ⟨g, k, rest, h1, _, _, _, hb⟩ := h; ⟨_, _, h1, hb.ri⟩
theorem rd_st (h : (isSt lo W H xs).p v w) : (rdS W H xs).p v w := let ⟨A, k, h1, h2, _⟩ := h; ⟨A, k, h1, h2⟩
theorem rd_ex (h : v = .agg #[.int .i64 W, .int .i64 H, .slice A xs.length k]) (hr : RI w A xs) : (rdS W H xs).p v w := ⟨A, k, h, hr⟩
theorem same_rd (W H : Int) (xs : List Int) (W' H' : Int) (ys : List Int) (hl1 : xs.length ≤ 1000000) (hl2 : ys.length ≤ 1000000) (v1 v2 : Value) (w : World) (h1 : (rdS W H xs).p v1 w) (h2 : (rdS W' H' ys).p v2 w) :
    Calls Try.prog 20 #[v1, v2] w (Got w (isV (.bool (decide (W = W') && decide (H = H') && decide (xs = ys)))).p) := by
  obtain ⟨A, k, rfl, r1⟩ := h1
  obtain ⟨A', k', rfl, r2⟩ := h2
  exact stsame_got W H A k xs W' H' A' k' ys w r1 r2 hl1 hl2
theorem same_yes (W H : Int) (xs : List Int) (hl1 : xs.length ≤ 1000000) (v1 v2 : Value) (w : World) (h1 : (rdS W H xs).p v1 w) (h2 : (rdS W H xs).p v2 w) : Calls Try.prog 20 #[v1, v2] w (Got w (isV (.bool true)).p) := by
  have h := same_rd W H xs W H xs hl1 hl1 v1 v2 w h1 h2
  simp only [decide_true, Bool.and_self] at h
  exact h
theorem Apply_rd (W H x y t : Int) (f : Bool) (xs : List Int) (hv : validB W H xs = true) (hm : alB W H x y t = true) (v2 : Value) (w : World) (h2 : (rdS W H xs).p v2 w) :
    Calls Try.prog 13 #[.agg #[.int .i64 x, .int .i64 y, .int .i64 t, .bool f], v2] w (Got w (isP (isFS w.heap.size W H (apL W H x y t f xs)) (isV (.int .i64 0))).p) := by
  obtain ⟨A, k, rfl, r⟩ := h2
  obtain ⟨ad, rfl⟩ := valid_some r hv
  exact Apply_ad W H x y t f ad k xs w r hv hm
theorem Apply_rd_no (W H x y t : Int) (f : Bool) (xs : List Int) (hm : (validB W H xs && alB W H x y t) = false) (v2 : Value) (w : World) (h2 : (rdS W H xs).p v2 w) :
    Calls Try.prog 13 #[.agg #[.int .i64 x, .int .i64 y, .int .i64 t, .bool f], v2] w (Got w (isP (isV (.agg #[.int .i64 0, .int .i64 0, .slice none 0 0])) (isV (.int .i64 2))).p) := by
  obtain ⟨A, k, rfl, r⟩ := h2
  exact Apply_no W H x y t f A k xs w r hm
theorem Valid_rd (W H : Int) (xs : List Int) (v2 : Value) (w : World) (h2 : (rdS W H xs).p v2 w) : Calls Try.prog 16 #[v2] w (Got w (isV (.bool (validB W H xs))).p) := by
  obtain ⟨A, k, rfl, r⟩ := h2
  exact Valid_got W H A k xs w r
theorem rValid_rd (W H : Int) (xs : List Int) (v2 : Value) (w : World) (h2 : (rdS W H xs).p v2 w) : Calls Try.prog 17 #[v2] w (Got w (isV (.bool (validB W H xs))).p) := by
  obtain ⟨A, k, rfl, r⟩ := h2
  exact rValid_got W H A k xs w r
theorem rApply_rd (W H x y t : Int) (f : Bool) (xs : List Int) (hv : validB W H xs = true) (hm : alB W H x y t = true) (v2 : Value) (w : World) (h2 : (rdS W H xs).p v2 w) :
    Calls Try.prog 22 #[.agg #[.int .i64 x, .int .i64 y, .int .i64 t, .bool f], v2] w (Got w (isFS w.heap.size W H (apL W H x y t f xs)).p) := by
  obtain ⟨A, k, rfl, r⟩ := h2
  obtain ⟨ad, rfl⟩ := valid_some r hv
  exact rapply_got W H x y t f ad k xs w r (okm (valid_size hv) hm) (valid_len hv)
end
theorem apL_length (W H x y t : Int) (f : Bool) (xs : List Int) : (apL W H x y t f xs).length = xs.length := apS_length _ _ _
theorem valid_short {W H : Int} {xs : List Int} (h : validB W H xs = true) : xs.length ≤ 64 := by
  have h1 := size_mul (valid_size h)
  have h2 := valid_len h
  omega
theorem valid_take (W H : Int) (xs : List Int) : validB W H (xs.take 70) = validB W H xs := by
  by_cases h : xs.length ≤ 70
  · rw [List.take_of_length_le h]
  · have key : ∀ ys : List Int, 70 ≤ ys.length → validB W H ys = false := by
      intro ys hy
      cases hv : validB W H ys
      · rfl
      · have := valid_short hv; omega
    rw [key xs (by omega), key (xs.take 70) (by rw [List.length_take]; omega)]
theorem apL_aw : apL 2 1 1 0 0 false [0, 1] = [1, 0] := by decide
theorem valid_aw : validB 2 1 [0, 1] = true := by decide
theorem al_aw : alB 2 1 1 0 0 = true := by decide

set_option maxRecDepth 100000 in
set_option maxHeartbeats 1000000 in
theorem awake_got (w : World) :
    Calls Try.prog 18 #[] w (Got w (isV (.bool true)).p) := by
  go_enter Try.func18, Try.ntmps18
  go_upto_region 1 with fail
  have HE : Hd (Env w []) := ⟨trivial⟩
  have HB : Hd (Below w.heap.size w w) := ⟨Below.refl _ _⟩
  refine wp_region_vd 8 [4, 5, 6, 7, 3, 8, 9, 1] [0, 2, 4, 5, 6] [7] 27 [.int .i64 0, .int .i64 0, .slice none 0 0] [isV (.agg #[.int .i64 1, .int .i64 0, .int .i64 0, .bool false]), isF w.heap.size ([0, 1]), isFS w.heap.size 2 1 ([0, 1]), isP (isFS w.heap.size 2 1 (apL 2 1 1 0 0 false ([0, 1]))) (isV (.int .i64 0)), isP (isFS w.heap.size 2 1 (apL 2 1 1 0 0 false ([0, 1]))) (isV (.int .i64 0)), isFS w.heap.size 2 1 (apL 2 1 1 0 0 false ([0, 1])), isV (.int .i64 0), SP.any] (by rfl) alloc_T ?_ ?_
  · intro qi qh qA aa wx hb hs hd
    match qi, qh, qA with
    | 0, _, _ => exact .inl ⟨rfl, ⟨_, op_buM0 rfl rfl, rfl⟩⟩
    | 1, _, _ => exact .inl ⟨rfl, op_lit2 rfl rfl w.heap.size hb.size⟩
    | 2, _, _ => exact .inl ⟨rfl, op_buTF rfl rfl rfl (hd 1 rfl)⟩
    | 3, _, _ => exact .inl ⟨rfl, op_call2 rfl rfl Try.call13 (by rw [show aa.eval (.tmp 4) = .agg #[.int .i64 1, .int .i64 0, .int .i64 0, .bool false] from (hd 0 rfl)]; exact got_fsp hb.size (Apply_rd 2 1 1 0 0 false ([0, 1]) valid_aw al_aw _ _ (rd_fs (hd 2 rfl))))⟩
    | 4, _, _ => exact .inl ⟨rfl, op_mv rfl (hd 3 rfl)⟩
    | 5, _, _ => exact .inl ⟨rfl, op_fst rfl (hd 4 rfl)⟩
    | 6, _, _ => exact .inl ⟨rfl, op_snd rfl (hd 4 rfl)⟩
    | 7, _, h => cases h
    | qi + 8, h, _ => omega
  · intro vs X1 hb hv hal hne
    have HL0 := Hd.mk (HE.out.lt)
    have HBW := HB
    replace HB := Hd.mk (bel_then HB.out hb)
    replace HE : Hd (Env X1 []) := ⟨HE.out.to hb⟩
    have HLS := HL0
    have t8 : (isFS w.heap.size 2 1 (apL 2 1 1 0 0 false ([0, 1]))).p (vs 8) X1 := hv 5 (by decide) rfl
    obtain ⟨g8, k8, rest8, e8, l8, m8, n8, b8⟩ := t8
    replace HE : Hd (Env X1 [⟨g8, 3, ints (apL 2 1 1 0 0 false ([0, 1])) ++ rest8⟩]) := ⟨Env.addne (e := ⟨g8, 3, ints (apL 2 1 1 0 0 false ([0, 1])) ++ rest8⟩) HE.out b8 (fun e' he => Nat.ne_of_lt (Nat.lt_of_lt_of_le (HL0.out e' he) l8))⟩
    have G8 : Hd (w.heap.size ≤ g8) := ⟨Nat.le_trans HBW.out.size l8⟩
    have e9 : vs 9 = .int .i64 0 := hv 6 (by decide) rfl
    obtain ⟨g1, e1, l1, b1⟩ : ∃ g, vs 1 = .pointer (some ⟨g, 0, none⟩) ∧ _ := hal 7 rfl
    replace HE : Hd (Env X1 [⟨g8, 3, ints (apL 2 1 1 0 0 false ([0, 1])) ++ rest8⟩, ⟨g1, 27, [.int .i64 0, .int .i64 0, .slice none 0 0]⟩]) := ⟨Env.addne (e := ⟨g1, 27, [.int .i64 0, .int .i64 0, .slice none 0 0]⟩) HE.out b1 (fun e' he => (List.mem_append.1 (show e' ∈ _ ++ [_] from he)).elim (fun he => Nat.ne_of_lt (Nat.lt_of_lt_of_le (HL0.out e' he) l1)) (fun he => by rw [List.mem_singleton.1 he]; exact blk_ne b8 b1 (by decide)))⟩
    have G1 : Hd (w.heap.size ≤ g1) := ⟨Nat.le_trans HBW.out.size l1⟩
    simp only [putAll, List.foldl_cons, List.foldl_nil, Act.put, List.setIfInBounds_toArray, List.set_cons_succ, List.set_cons_zero, List.drop_succ_cons, List.drop_zero, e8, e9, e1]
    generalize vs 4 = s4
    generalize vs 5 = s5
    generalize vs 6 = s6
    generalize vs 7 = s7
    generalize vs 3 = s3
    clear hv hal hne hb HL0 HBW HLS e8 e9 e1 l8 b8 l1 b1
    refine wpList_st rfl rfl rfl rfl rfl (sto_T (HE.out.get 1 rfl)) ?_
    have HE' : Env (putL X1 g1 0 [.int .i64 2, .int .i64 1, .slice (some ⟨g8, 0, none⟩) ((apL 2 1 1 0 0 false ([0, 1])).length) k8]) [⟨g8, 3, ints (apL 2 1 1 0 0 false ([0, 1])) ++ rest8⟩, ⟨g1, 27, [.int .i64 2, .int .i64 1, .slice (some ⟨g8, 0, none⟩) ((apL 2 1 1 0 0 false ([0, 1])).length) k8]⟩] := HE.out.putF 1 rfl rfl
    have HB' := putL_below (show w.heap.size ≤ g1 from G1.out) [.int .i64 2, .int .i64 1, .slice (some ⟨g8, 0, none⟩) ((apL 2 1 1 0 0 false ([0, 1])).length) k8] _ 0 HB.out
    generalize putL X1 g1 0 [.int .i64 2, .int .i64 1, .slice (some ⟨g8, 0, none⟩) ((apL 2 1 1 0 0 false ([0, 1])).length) k8] = X2 at *
    replace HE := Hd.mk HE'
    replace HB := Hd.mk HB'
    clear HE' HB'
    go_upto_region 2 with fail
    refine wp_region_vd 9 [10, 11, 12, 13, 14, 15, 16, 17, 18] [0, 1, 2, 6, 8] [] 84 [.int .i64 0, .int .i64 0] [isV (.int .i64 0), isV (.bool true), isV (.bool true), isV (.agg #[.int .i64 2, .int .i64 1, .slice (some ⟨g8, 0, none⟩) ((apL 2 1 1 0 0 false ([0, 1])).length) k8]), isV (.agg #[.int .i64 2, .int .i64 1, .slice (some ⟨g8, 0, none⟩) ((apL 2 1 1 0 0 false ([0, 1])).length) k8]), isF X2.heap.size ([1, 0]), isFS X2.heap.size 2 1 ([1, 0]), isV (.bool true), isV (.bool true)] (by rfl) alloc_Z ?_ ?_
    · intro qi qh qA aa wx hb hs hd
      match qi, qh, qA with
      | 0, _, _ => exact .inl ⟨rfl, op_mv rfl (hs 2 rfl)⟩
      | 1, _, _ => exact .inl ⟨rfl, pure_b (bool_eq (by decide)) (⟨_, op_eqlE rfl (hd 0 rfl) rfl, rfl⟩)⟩
      | 2, _, _ => exact .inl ⟨rfl, op_mv rfl (hd 1 rfl)⟩
      | 3, _, _ => exact .inl ⟨⟨rfl, .inl (hd 2 rfl)⟩, op_ldT rfl rfl (hs 1 rfl) ((HE.out.to hb).get 1 rfl)⟩
      | 4, _, _ => exact .inl ⟨⟨rfl, .inl (hd 2 rfl)⟩, op_call1 rfl rfl Try.call21 (by rw [(show aa.eval (.tmp 13) = .agg #[.int .i64 2, .int .i64 1, .slice (some ⟨g8, 0, none⟩) ((apL 2 1 1 0 0 false ([0, 1])).length) k8] from (hd 3 rfl))]; exact own_got 2 1 (some ⟨g8, 0, none⟩) ((apL 2 1 1 0 0 false ([0, 1])).length) k8 _)⟩
      | 5, _, _ => exact .inl ⟨⟨rfl, .inl (hd 2 rfl)⟩, op_lit2 rfl rfl X2.heap.size hb.size⟩
      | 6, _, _ => exact .inl ⟨⟨rfl, .inl (hd 2 rfl)⟩, op_buUF rfl rfl rfl (hd 5 rfl)⟩
      | 7, _, _ => exact .inl ⟨⟨rfl, .inl (hd 2 rfl)⟩, op_call2 rfl rfl Try.call20 (same_yes 2 1 [1, 0] (by decide) _ _ _ (by have h := (rd_ex (xs := apL 2 1 1 0 0 false ([0, 1])) (hd 4 rfl) ((HE.out.to hb).get 0 rfl).ri); rw [apL_aw] at h; exact h) (rd_fs (hd 6 rfl)))⟩
      | 8, _, _ => exact .inl ⟨rfl, ⟨_, op_pickT rfl (hd 2 rfl) (hd 7 rfl), rfl⟩⟩
      | qi + 9, h, _ => omega
    · intro vs X3 hb hv hal hne
      have HL0 := Hd.mk (HE.out.lt)
      have HBW := HB
      replace HB := Hd.mk (bel_then HB.out hb)
      replace HE : Hd (Env X3 [⟨g8, 3, ints (apL 2 1 1 0 0 false ([0, 1])) ++ rest8⟩, ⟨g1, 27, [.int .i64 2, .int .i64 1, .slice (some ⟨g8, 0, none⟩) ((apL 2 1 1 0 0 false ([0, 1])).length) k8]⟩]) := ⟨HE.out.to hb⟩
      have HLS := HL0
      have e18 : vs 18 = .bool true := hv 8 (by decide) rfl
      simp only [putAll, List.foldl_cons, List.foldl_nil, Act.put, List.setIfInBounds_toArray, List.set_cons_succ, List.set_cons_zero, List.drop_succ_cons, List.drop_zero, e18]
      generalize vs 10 = s10
      generalize vs 11 = s11
      generalize vs 12 = s12
      generalize vs 13 = s13
      generalize vs 14 = s14
      generalize vs 15 = s15
      generalize vs 16 = s16
      generalize vs 17 = s17
      clear hv hal hne hb HL0 HBW HLS e18
      go_wp2_with fail
      go_ret
      exact ⟨_, rfl, HB.out, rfl⟩
set_option maxRecDepth 100000 in
set_option maxHeartbeats 1000000 in
theorem Applies_yes (Wd Ht x y t : Int) (f : Bool) (A : Option Addr) (k : Nat) (xs : List Int) (w : World) (hri : RI w A xs) (hlk : xs.length ≤ k) (hA : A = none → k = 0) (hv : validB Wd Ht xs = true) (hm : alB Wd Ht x y t = true) :
    Calls Try.prog 3 #[.agg #[.int .i64 Wd, .int .i64 Ht, .slice A xs.length k], .agg #[.int .i64 x, .int .i64 y, .int .i64 t, .bool f]] w (Got w (isV (.bool true)).p) := by
  have HRI := Hd.mk hri
  clear hri
  have hsh := valid_short hv
  have HSTY := Hd.mk (fun W (h : RI W A xs) => (show Calls Try.prog 15 #[_] W (Got W (isSt W.heap.size Wd Ht xs).p) from by have q := stamps_got Wd Ht A k xs W h hlk hA; rwa [List.take_of_length_le (by omega)] at q))
  have HV := Hd.mk hv
  have HM := Hd.mk hm
  clear hv hm
  go_enter Try.func3, Try.ntmps3
  go_upto_region 1 with fail
  obtain ⟨W0, hW0⟩ : ∃ W : World, W = (w.alloc (.cells #[.int .i64 Wd, .int .i64 Ht, .slice A xs.length k] 24)).alloc (.cells #[.int .i64 x, .int .i64 y, .int .i64 t, .bool f] 26) := ⟨_, rfl⟩
  rw [← hW0]
  obtain ⟨he, hb⟩ := env_two hW0
  have HE := Hd.mk he
  have HB := Hd.mk hb
  clear he hb hW0
  refine wp_region_vs 9 [8, 9, 10, 11, 12, 7, 13, 14, 5] [5, 6, 7] [8] 27 [.int .i64 0, .int .i64 0, .slice none 0 0] [isV (.agg #[.int .i64 x, .int .i64 y, .int .i64 t, .bool f]), isV (.agg #[.int .i64 x, .int .i64 y, .int .i64 t, .bool f]), isV (.agg #[.int .i64 Wd, .int .i64 Ht, .slice A xs.length k]), isSt W0.heap.size Wd Ht xs, isP (isFS W0.heap.size Wd Ht (apL Wd Ht x y t f xs)) (isV (.int .i64 0)), isP (isFS W0.heap.size Wd Ht (apL Wd Ht x y t f xs)) (isV (.int .i64 0)), isFS W0.heap.size Wd Ht (apL Wd Ht x y t f xs), isV (.int .i64 0), SP.any] (by kernel_rfl) (by kernel_rfl) (by kernel_rfl) (by rfl) alloc_T (fun d v c a w h => by cases d <;> exact h) ?_ ?_
  · intro qi qh qA aa wx hb hs hd
    match qi, qh, qA with
    | 0, _, _ => exact op_ldN rfl rfl (hs 3 rfl) ((HE.out.to hb).get 1 rfl)
    | 1, _, _ => exact op_call1 rfl rfl Try.call14 (by rw [(show aa.eval (.tmp 8) = .agg #[.int .i64 x, .int .i64 y, .int .i64 t, .bool f] from (hd 0 rfl))]; exact move_got x y t f _)
    | 2, _, _ => exact op_ldU rfl rfl (hs 2 rfl) ((HE.out.to hb).get 0 rfl)
    | 3, _, _ => exact op_call1 rfl rfl Try.call15 (by rw [(show aa.eval (.tmp 10) = .agg #[.int .i64 Wd, .int .i64 Ht, .slice A xs.length k] from (hd 2 rfl))]; exact got_st hb.size (HSTY.out _ (HRI.out.to (bel_then HB.out hb))))
    | 4, _, _ => exact op_call2 rfl rfl Try.call13 (by rw [show aa.eval (.tmp 9) = .agg #[.int .i64 x, .int .i64 y, .int .i64 t, .bool f] from (hd 1 rfl)]; exact got_fsp hb.size (Apply_rd Wd Ht x y t f xs HV.out HM.out _ _ (rd_st (hd 3 rfl))))
    | 5, _, _ => exact op_mv rfl (hd 4 rfl)
    | 6, _, _ => exact op_fst rfl (hd 5 rfl)
    | 7, _, _ => exact op_snd rfl (hd 5 rfl)
    | 8, _, h => cases h
    | qi + 9, h, _ => omega
  · intro vs X1 hb hv hal hne
    have HL0 := Hd.mk (HE.out.lt)
    have HBW := HB
    replace HB := Hd.mk (bel_then HB.out hb)
    replace HE : Hd (Env X1 [⟨w.heap.size, 24, [.int .i64 Wd, .int .i64 Ht, .slice A xs.length k]⟩, ⟨w.heap.size + 1, 26, [.int .i64 x, .int .i64 y, .int .i64 t, .bool f]⟩]) := ⟨HE.out.to hb⟩
    have HLS := HL0
    have t13 : (isFS W0.heap.size Wd Ht (apL Wd Ht x y t f xs)).p (vs 13) X1 := hv 6 (by decide) rfl
    obtain ⟨g13, k13, rest13, e13, l13, m13, n13, b13⟩ := t13
    replace HE : Hd (Env X1 [⟨w.heap.size, 24, [.int .i64 Wd, .int .i64 Ht, .slice A xs.length k]⟩, ⟨w.heap.size + 1, 26, [.int .i64 x, .int .i64 y, .int .i64 t, .bool f]⟩, ⟨g13, 3, ints (apL Wd Ht x y t f xs) ++ rest13⟩]) := ⟨Env.addne (e := ⟨g13, 3, ints (apL Wd Ht x y t f xs) ++ rest13⟩) HE.out b13 (fun e' he => Nat.ne_of_lt (Nat.lt_of_lt_of_le (HL0.out e' he) l13))⟩
    have G13 : Hd (w.heap.size ≤ g13) := ⟨Nat.le_trans HBW.out.size l13⟩
    have e14 : vs 14 = .int .i64 0 := hv 7 (by decide) rfl
    obtain ⟨g5, e5, l5, b5⟩ : ∃ g, vs 5 = .pointer (some ⟨g, 0, none⟩) ∧ _ := hal 8 rfl
    replace HE : Hd (Env X1 [⟨w.heap.size, 24, [.int .i64 Wd, .int .i64 Ht, .slice A xs.length k]⟩, ⟨w.heap.size + 1, 26, [.int .i64 x, .int .i64 y, .int .i64 t, .bool f]⟩, ⟨g13, 3, ints (apL Wd Ht x y t f xs) ++ rest13⟩, ⟨g5, 27, [.int .i64 0, .int .i64 0, .slice none 0 0]⟩]) := ⟨Env.addne (e := ⟨g5, 27, [.int .i64 0, .int .i64 0, .slice none 0 0]⟩) HE.out b5 (fun e' he => (List.mem_append.1 (show e' ∈ _ ++ [_] from he)).elim (fun he => Nat.ne_of_lt (Nat.lt_of_lt_of_le (HL0.out e' he) l5)) (fun he => by rw [List.mem_singleton.1 he]; exact blk_ne b13 b5 (by decide)))⟩
    have G5 : Hd (w.heap.size ≤ g5) := ⟨Nat.le_trans HBW.out.size l5⟩
    simp only [putAll, List.foldl_cons, List.foldl_nil, Act.put, List.setIfInBounds_toArray, List.set_cons_succ, List.set_cons_zero, List.drop_succ_cons, List.drop_zero, e13, e14, e5]
    generalize vs 8 = s8
    generalize vs 9 = s9
    generalize vs 10 = s10
    generalize vs 11 = s11
    generalize vs 12 = s12
    generalize vs 7 = s7
    clear hv hal hne hb HL0 HBW HLS e13 e14 e5 l13 b13 l5 b5
    refine wpList_st rfl rfl rfl rfl rfl (sto_T (HE.out.get 3 rfl)) ?_
    have HE' : Env (putL X1 g5 0 [.int .i64 Wd, .int .i64 Ht, .slice (some ⟨g13, 0, none⟩) ((apL Wd Ht x y t f xs).length) k13]) [⟨w.heap.size, 24, [.int .i64 Wd, .int .i64 Ht, .slice A xs.length k]⟩, ⟨w.heap.size + 1, 26, [.int .i64 x, .int .i64 y, .int .i64 t, .bool f]⟩, ⟨g13, 3, ints (apL Wd Ht x y t f xs) ++ rest13⟩, ⟨g5, 27, [.int .i64 Wd, .int .i64 Ht, .slice (some ⟨g13, 0, none⟩) ((apL Wd Ht x y t f xs).length) k13]⟩] := HE.out.putF 3 rfl rfl
    have HB' := putL_below (show w.heap.size ≤ g5 from G5.out) [.int .i64 Wd, .int .i64 Ht, .slice (some ⟨g13, 0, none⟩) ((apL Wd Ht x y t f xs).length) k13] _ 0 HB.out
    generalize putL X1 g5 0 [.int .i64 Wd, .int .i64 Ht, .slice (some ⟨g13, 0, none⟩) ((apL Wd Ht x y t f xs).length) k13] = X2 at *
    replace HE := Hd.mk HE'
    replace HB := Hd.mk HB'
    clear HE' HB'
    go_upto_region 2 with fail
    refine wp_region_vg 10 [15, 16, 17, 18, 19, 20, 21, 22, 23, 24] [5, 6, 8, 9] [] 84 [.int .i64 0, .int .i64 0] [isV (.agg #[.int .i64 Wd, .int .i64 Ht, .slice A xs.length k]), isSt X2.heap.size Wd Ht xs, isV (.bool (validB Wd Ht xs)), isV (.agg #[.int .i64 Wd, .int .i64 Ht, .slice A xs.length k]), isV (.bool (validB Wd Ht xs)), isV (.bool false), isV (.bool false), isV (.bool true), isV (.bool false), isV (.bool false)] (by kernel_rfl) (by kernel_rfl) (by kernel_rfl) (by rfl) alloc_Z (fun d v c a w h => by cases d <;> exact h) ?_ ?_
    · intro qi qh qA aa wx hb hs hd
      match qi, qh, qA with
      | 0, _, _ => exact .inl ⟨rfl, op_ldU rfl rfl (hs 2 rfl) ((HE.out.to hb).get 0 rfl)⟩
      | 1, _, _ => exact .inl ⟨rfl, op_call1 rfl rfl Try.call15 (by rw [(show aa.eval (.tmp 15) = .agg #[.int .i64 Wd, .int .i64 Ht, .slice A xs.length k] from (hd 0 rfl))]; exact got_st hb.size (HSTY.out _ (HRI.out.to (bel_then HB.out hb))))⟩
      | 2, _, _ => exact .inl ⟨rfl, op_call1 rfl rfl Try.call16 (Valid_rd Wd Ht xs _ _ (rd_st (hd 1 rfl)))⟩
      | 3, _, _ => exact .inl ⟨rfl, op_ldU rfl rfl (hs 2 rfl) ((HE.out.to hb).get 0 rfl)⟩
      | 4, _, _ => exact .inl ⟨rfl, op_call1 rfl rfl Try.call17 (rValid_rd Wd Ht xs _ _ (rd_ex (xs := xs) (hd 3 rfl) (HRI.out.to (bel_then HB.out hb))))⟩
      | 5, _, _ => exact .inl ⟨rfl, pure_b (bool_eq (bne_self_eq_false _)) (⟨_, op_neqB rfl (hd 2 rfl) (hd 4 rfl), rfl⟩)⟩
      | 6, _, _ => exact .inl ⟨rfl, op_mv rfl (hd 5 rfl)⟩
      | 7, _, _ => exact .inl ⟨⟨rfl, .inl (hd 6 rfl)⟩, op_call0 rfl rfl Try.call18 (awake_got _)⟩
      | 8, _, _ => exact .inl ⟨⟨rfl, .inl (hd 6 rfl)⟩, ⟨_, op_not rfl (hd 7 rfl), rfl⟩⟩
      | 9, _, _ => exact .inl ⟨rfl, ⟨_, op_pickF rfl (hd 6 rfl) (hd 8 rfl), rfl⟩⟩
      | qi + 10, h, _ => omega
    · intro vs X3 hb hv hal hne
      have HL0 := Hd.mk (HE.out.lt)
      have HBW := HB
      replace HB := Hd.mk (bel_then HB.out hb)
      replace HE : Hd (Env X3 [⟨w.heap.size, 24, [.int .i64 Wd, .int .i64 Ht, .slice A xs.length k]⟩, ⟨w.heap.size + 1, 26, [.int .i64 x, .int .i64 y, .int .i64 t, .bool f]⟩, ⟨g13, 3, ints (apL Wd Ht x y t f xs) ++ rest13⟩, ⟨g5, 27, [.int .i64 Wd, .int .i64 Ht, .slice (some ⟨g13, 0, none⟩) ((apL Wd Ht x y t f xs).length) k13]⟩]) := ⟨HE.out.to hb⟩
      have HLS := HL0
      have e24 : vs 24 = .bool false := hv 9 (by decide) rfl
      simp only [putAll, List.foldl_cons, List.foldl_nil, Act.put, List.setIfInBounds_toArray, List.set_cons_succ, List.set_cons_zero, List.drop_succ_cons, List.drop_zero, e24]
      generalize vs 15 = s15
      generalize vs 16 = s16
      generalize vs 17 = s17
      generalize vs 18 = s18
      generalize vs 19 = s19
      generalize vs 20 = s20
      generalize vs 21 = s21
      generalize vs 22 = s22
      generalize vs 23 = s23
      clear hv hal hne hb HL0 HBW HLS e24
      go_upto_region 4 with fail
      refine wp_region_vd 12 [25, 26, 27, 28, 29, 30, 31, 32, 33, 34, 35, 36] [2, 3, 4, 6, 10, 11] [] 84 [.int .i64 0, .int .i64 0] [isV (.agg #[.int .i64 Wd, .int .i64 Ht, .slice A xs.length k]), isV (.bool true), isV (.bool false), isV (.bool false), isV (.pointer (some ⟨w.heap.size, 0, none⟩)), isV (.int .i64 Wd), isV (.pointer (some ⟨w.heap.size, 1, none⟩)), isV (.int .i64 Ht), isV (.agg #[.int .i64 x, .int .i64 y, .int .i64 t, .bool f]), isV (.bool true), isV (.bool false), isV (.bool false)] (by rfl) alloc_Z ?_ ?_
      · intro qi qh qA aa wx hb hs hd
        match qi, qh, qA with
        | 0, _, _ => exact .inl ⟨rfl, op_ldU rfl rfl (hs 2 rfl) ((HE.out.to hb).get 0 rfl)⟩
        | 1, _, _ => exact .inl ⟨rfl, wp_b (bool_eq HV.out) (op_call1 rfl rfl Try.call17 (rValid_rd Wd Ht xs _ _ (rd_ex (xs := xs) (hd 0 rfl) (HRI.out.to (bel_then HB.out hb)))))⟩
        | 2, _, _ => exact .inl ⟨rfl, ⟨_, op_not rfl (hd 1 rfl), rfl⟩⟩
        | 3, _, _ => exact .inl ⟨rfl, op_mv rfl (hd 2 rfl)⟩
        | 4, _, _ => exact .inl ⟨⟨rfl, .inl (hd 3 rfl)⟩, ⟨_, op_faU0 rfl (hs 2 rfl), rfl⟩⟩
        | 5, _, _ => exact .inl ⟨⟨rfl, .inl (hd 3 rfl)⟩, op_ldI rfl rfl (hd 4 rfl) ((HE.out.to hb).cell 0 0 rfl rfl)⟩
        | 6, _, _ => exact .inl ⟨⟨rfl, .inl (hd 3 rfl)⟩, ⟨_, op_faU1 rfl (hs 2 rfl), rfl⟩⟩
        | 7, _, _ => exact .inl ⟨⟨rfl, .inl (hd 3 rfl)⟩, op_ldI rfl rfl (hd 6 rfl) ((HE.out.to hb).cell 0 1 rfl rfl)⟩
        | 8, _, _ => exact .inl ⟨⟨rfl, .inl (hd 3 rfl)⟩, op_ldN rfl rfl (hs 3 rfl) ((HE.out.to hb).get 1 rfl)⟩
        | 9, _, _ => exact .inl ⟨⟨rfl, .inl (hd 3 rfl)⟩, wp_b (bool_eq HM.out) (op_call3 rfl rfl Try.call19 (by rw [(show aa.eval (.tmp 30) = .int .i64 Wd from (hd 5 rfl)), (show aa.eval (.tmp 32) = .int .i64 Ht from (hd 7 rfl)), (show aa.eval (.tmp 33) = .agg #[.int .i64 x, .int .i64 y, .int .i64 t, .bool f] from (hd 8 rfl))]; exact Fits_got Wd Ht x y t f _))⟩
        | 10, _, _ => exact .inl ⟨⟨rfl, .inl (hd 3 rfl)⟩, ⟨_, op_not rfl (hd 9 rfl), rfl⟩⟩
        | 11, _, _ => exact .inl ⟨rfl, ⟨_, op_pickF rfl (hd 3 rfl) (hd 10 rfl), rfl⟩⟩
        | qi + 12, h, _ => omega
      · intro vs X4 hb hv hal hne
        have HL0 := Hd.mk (HE.out.lt)
        have HBW := HB
        replace HB := Hd.mk (bel_then HB.out hb)
        replace HE : Hd (Env X4 [⟨w.heap.size, 24, [.int .i64 Wd, .int .i64 Ht, .slice A xs.length k]⟩, ⟨w.heap.size + 1, 26, [.int .i64 x, .int .i64 y, .int .i64 t, .bool f]⟩, ⟨g13, 3, ints (apL Wd Ht x y t f xs) ++ rest13⟩, ⟨g5, 27, [.int .i64 Wd, .int .i64 Ht, .slice (some ⟨g13, 0, none⟩) ((apL Wd Ht x y t f xs).length) k13]⟩]) := ⟨HE.out.to hb⟩
        have HLS := HL0
        have e36 : vs 36 = .bool false := hv 11 (by decide) rfl
        simp only [putAll, List.foldl_cons, List.foldl_nil, Act.put, List.setIfInBounds_toArray, List.set_cons_succ, List.set_cons_zero, List.drop_succ_cons, List.drop_zero, e36]
        generalize vs 25 = s25
        generalize vs 26 = s26
        generalize vs 27 = s27
        generalize vs 28 = s28
        generalize vs 29 = s29
        generalize vs 30 = s30
        generalize vs 31 = s31
        generalize vs 32 = s32
        generalize vs 33 = s33
        generalize vs 34 = s34
        generalize vs 35 = s35
        clear hv hal hne hb HL0 HBW HLS e36
        go_upto_region 6 with fail
        refine wp_region_vg 11 [45, 46, 47, 48, 49, 50, 51, 52, 53, 54, 4] [6, 7, 8, 9, 10] [] 84 [.int .i64 0, .int .i64 0] [isV (.agg #[.int .i64 Wd, .int .i64 Ht, .slice (some ⟨g13, 0, none⟩) ((apL Wd Ht x y t f xs).length) k13]), isV (.agg #[.int .i64 Wd, .int .i64 Ht, .slice (some ⟨g13, 0, none⟩) ((apL Wd Ht x y t f xs).length) k13]), isV (.agg #[.int .i64 x, .int .i64 y, .int .i64 t, .bool f]), isV (.agg #[.int .i64 Wd, .int .i64 Ht, .slice A xs.length k]), isFS X4.heap.size Wd Ht (apL Wd Ht x y t f xs), isV (.bool true), isV (.bool true), isV (.int .i64 0), isV (.bool true), isV (.bool true), isV (.bool true)] (by kernel_rfl) (by kernel_rfl) (by kernel_rfl) (by rfl) alloc_Z (fun d v c a w h => by cases d <;> exact h) ?_ ?_
        · intro qi qh qA aa wx hb hs hd
          match qi, qh, qA with
          | 0, _, _ => exact .inl ⟨rfl, op_ldT rfl rfl (hs 5 rfl) ((HE.out.to hb).get 3 rfl)⟩
          | 1, _, _ => exact .inl ⟨rfl, op_call1 rfl rfl Try.call21 (by rw [(show aa.eval (.tmp 45) = .agg #[.int .i64 Wd, .int .i64 Ht, .slice (some ⟨g13, 0, none⟩) ((apL Wd Ht x y t f xs).length) k13] from (hd 0 rfl))]; exact own_got Wd Ht (some ⟨g13, 0, none⟩) ((apL Wd Ht x y t f xs).length) k13 _)⟩
          | 2, _, _ => exact .inl ⟨rfl, op_ldN rfl rfl (hs 3 rfl) ((HE.out.to hb).get 1 rfl)⟩
          | 3, _, _ => exact .inl ⟨rfl, op_ldU rfl rfl (hs 2 rfl) ((HE.out.to hb).get 0 rfl)⟩
          | 4, _, _ => exact .inl ⟨rfl, op_call2 rfl rfl Try.call22 (by rw [show aa.eval (.tmp 47) = .agg #[.int .i64 x, .int .i64 y, .int .i64 t, .bool f] from (hd 2 rfl)]; exact got_fs hb.size (rApply_rd Wd Ht x y t f xs HV.out HM.out _ _ (rd_ex (xs := xs) (hd 3 rfl) (HRI.out.to (bel_then HB.out hb)))))⟩
          | 5, _, _ => exact .inl ⟨rfl, op_call2 rfl rfl Try.call20 (same_yes Wd Ht (apL Wd Ht x y t f xs) (by simp only [apL_length, List.length_cons, List.length_nil]; omega) _ _ _ (rd_ex (xs := apL Wd Ht x y t f xs) (hd 1 rfl) ((HE.out.to hb).get 2 rfl).ri) (rd_fs (hd 4 rfl)))⟩
          | 6, _, _ => exact .inl ⟨rfl, op_mv rfl (hd 5 rfl)⟩
          | 7, _, _ => exact .inl ⟨⟨rfl, .inl (hd 6 rfl)⟩, op_mv rfl (hs 6 rfl)⟩
          | 8, _, _ => exact .inl ⟨⟨rfl, .inl (hd 6 rfl)⟩, pure_b (bool_eq (by decide)) (⟨_, op_eqlE rfl (hd 7 rfl) rfl, rfl⟩)⟩
          | 9, _, _ => exact .inl ⟨rfl, ⟨_, op_pickT rfl (hd 6 rfl) (hd 8 rfl), rfl⟩⟩
          | 10, _, _ => exact .inl ⟨rfl, op_asg rfl (hd 9 rfl)⟩
          | qi + 11, h, _ => omega
        · intro vs X5 hb hv hal hne
          have HL0 := Hd.mk (HE.out.lt)
          have HBW := HB
          replace HB := Hd.mk (bel_then HB.out hb)
          replace HE : Hd (Env X5 [⟨w.heap.size, 24, [.int .i64 Wd, .int .i64 Ht, .slice A xs.length k]⟩, ⟨w.heap.size + 1, 26, [.int .i64 x, .int .i64 y, .int .i64 t, .bool f]⟩, ⟨g13, 3, ints (apL Wd Ht x y t f xs) ++ rest13⟩, ⟨g5, 27, [.int .i64 Wd, .int .i64 Ht, .slice (some ⟨g13, 0, none⟩) ((apL Wd Ht x y t f xs).length) k13]⟩]) := ⟨HE.out.to hb⟩
          have HLS := HL0
          have e4 : vs 4 = .bool true := hv 10 (by decide) rfl
          simp only [putAll, List.foldl_cons, List.foldl_nil, Act.put, List.setIfInBounds_toArray, List.set_cons_succ, List.set_cons_zero, List.drop_succ_cons, List.drop_zero, e4]
          generalize vs 45 = s45
          generalize vs 46 = s46
          generalize vs 47 = s47
          generalize vs 48 = s48
          generalize vs 49 = s49
          generalize vs 50 = s50
          generalize vs 51 = s51
          generalize vs 52 = s52
          generalize vs 53 = s53
          generalize vs 54 = s54
          clear hv hal hne hb HL0 HBW HLS e4
          go_wp2_with fail
          go_ret
          exact ⟨_, rfl, HB.out, rfl⟩
set_option maxRecDepth 100000 in
set_option maxHeartbeats 1000000 in
theorem Applies_no (Wd Ht x y t : Int) (f : Bool) (A : Option Addr) (k : Nat) (xs : List Int) (w : World) (hri : RI w A xs) (hlk : xs.length ≤ k) (hA : A = none → k = 0) (hn : (validB Wd Ht xs && alB Wd Ht x y t) = false) :
    Calls Try.prog 3 #[.agg #[.int .i64 Wd, .int .i64 Ht, .slice A xs.length k], .agg #[.int .i64 x, .int .i64 y, .int .i64 t, .bool f]] w (Got w (isV (.bool true)).p) := by
  have HRI := Hd.mk hri
  clear hri
  have HSTY := Hd.mk (fun W (h : RI W A xs) => stamps_got Wd Ht A k xs W h hlk hA)
  have HN : Hd ((validB Wd Ht (xs.take 70) && alB Wd Ht x y t) = false) := ⟨by rw [valid_take]; exact hn⟩
  have HTK : Hd ((validB Wd Ht (xs.take 70) != validB Wd Ht xs) = false) := ⟨by rw [valid_take]; exact bne_self_eq_false _⟩
  by_cases hv : validB Wd Ht xs = true
  · have hm : alB Wd Ht x y t = false := by rw [hv] at hn; simpa using hn
    have HV := Hd.mk hv
    have HM := Hd.mk hm
    clear hv hm hn
    go_enter Try.func3, Try.ntmps3
    go_upto_region 1 with fail
    obtain ⟨W0, hW0⟩ : ∃ W : World, W = (w.alloc (.cells #[.int .i64 Wd, .int .i64 Ht, .slice A xs.length k] 24)).alloc (.cells #[.int .i64 x, .int .i64 y, .int .i64 t, .bool f] 26) := ⟨_, rfl⟩
    rw [← hW0]
    obtain ⟨he, hb⟩ := env_two hW0
    have HE := Hd.mk he
    have HB := Hd.mk hb
    clear he hb hW0
    refine wp_region_vs 9 [8, 9, 10, 11, 12, 7, 13, 14, 5] [5, 6, 7] [8] 27 [.int .i64 0, .int .i64 0, .slice none 0 0] [isV (.agg #[.int .i64 x, .int .i64 y, .int .i64 t, .bool f]), isV (.agg #[.int .i64 x, .int .i64 y, .int .i64 t, .bool f]), isV (.agg #[.int .i64 Wd, .int .i64 Ht, .slice A xs.length k]), isSt W0.heap.size Wd Ht (xs.take 70), isP (isV (.agg #[.int .i64 0, .int .i64 0, .slice none 0 0])) (isV (.int .i64 2)), isP (isV (.agg #[.int .i64 0, .int .i64 0, .slice none 0 0])) (isV (.int .i64 2)), isV (.agg #[.int .i64 0, .int .i64 0, .slice none 0 0]), isV (.int .i64 2), SP.any] (by kernel_rfl) (by kernel_rfl) (by kernel_rfl) (by rfl) alloc_T (fun d v c a w h => by cases d <;> exact h) ?_ ?_
    · intro qi qh qA aa wx hb hs hd
      match qi, qh, qA with
      | 0, _, _ => exact op_ldN rfl rfl (hs 3 rfl) ((HE.out.to hb).get 1 rfl)
      | 1, _, _ => exact op_call1 rfl rfl Try.call14 (by rw [(show aa.eval (.tmp 8) = .agg #[.int .i64 x, .int .i64 y, .int .i64 t, .bool f] from (hd 0 rfl))]; exact move_got x y t f _)
      | 2, _, _ => exact op_ldU rfl rfl (hs 2 rfl) ((HE.out.to hb).get 0 rfl)
      | 3, _, _ => exact op_call1 rfl rfl Try.call15 (by rw [(show aa.eval (.tmp 10) = .agg #[.int .i64 Wd, .int .i64 Ht, .slice A xs.length k] from (hd 2 rfl))]; exact got_st hb.size (HSTY.out _ (HRI.out.to (bel_then HB.out hb))))
      | 4, _, _ => exact op_call2 rfl rfl Try.call13 (by rw [show aa.eval (.tmp 9) = .agg #[.int .i64 x, .int .i64 y, .int .i64 t, .bool f] from (hd 1 rfl)]; exact Apply_rd_no Wd Ht x y t f (xs.take 70) HN.out _ _ (rd_st (hd 3 rfl)))
      | 5, _, _ => exact op_mv rfl (hd 4 rfl)
      | 6, _, _ => exact op_fst rfl (hd 5 rfl)
      | 7, _, _ => exact op_snd rfl (hd 5 rfl)
      | 8, _, h => cases h
      | qi + 9, h, _ => omega
    · intro vs X1 hb hv hal hne
      have HL0 := Hd.mk (HE.out.lt)
      have HBW := HB
      replace HB := Hd.mk (bel_then HB.out hb)
      replace HE : Hd (Env X1 [⟨w.heap.size, 24, [.int .i64 Wd, .int .i64 Ht, .slice A xs.length k]⟩, ⟨w.heap.size + 1, 26, [.int .i64 x, .int .i64 y, .int .i64 t, .bool f]⟩]) := ⟨HE.out.to hb⟩
      have HLS := HL0
      have e13 : vs 13 = .agg #[.int .i64 0, .int .i64 0, .slice none 0 0] := hv 6 (by decide) rfl
      have e14 : vs 14 = .int .i64 2 := hv 7 (by decide) rfl
      obtain ⟨g5, e5, l5, b5⟩ : ∃ g, vs 5 = .pointer (some ⟨g, 0, none⟩) ∧ _ := hal 8 rfl
      replace HE : Hd (Env X1 [⟨w.heap.size, 24, [.int .i64 Wd, .int .i64 Ht, .slice A xs.length k]⟩, ⟨w.heap.size + 1, 26, [.int .i64 x, .int .i64 y, .int .i64 t, .bool f]⟩, ⟨g5, 27, [.int .i64 0, .int .i64 0, .slice none 0 0]⟩]) := ⟨Env.addne (e := ⟨g5, 27, [.int .i64 0, .int .i64 0, .slice none 0 0]⟩) HE.out b5 (fun e' he => Nat.ne_of_lt (Nat.lt_of_lt_of_le (HL0.out e' he) l5))⟩
      have G5 : Hd (w.heap.size ≤ g5) := ⟨Nat.le_trans HBW.out.size l5⟩
      simp only [putAll, List.foldl_cons, List.foldl_nil, Act.put, List.setIfInBounds_toArray, List.set_cons_succ, List.set_cons_zero, List.drop_succ_cons, List.drop_zero, e13, e14, e5]
      generalize vs 8 = s8
      generalize vs 9 = s9
      generalize vs 10 = s10
      generalize vs 11 = s11
      generalize vs 12 = s12
      generalize vs 7 = s7
      clear hv hal hne hb HL0 HBW HLS e13 e14 e5 l5 b5
      refine wpList_st rfl rfl rfl rfl rfl (sto_T (HE.out.get 2 rfl)) ?_
      have HE' : Env (putL X1 g5 0 [.int .i64 0, .int .i64 0, .slice none 0 0]) [⟨w.heap.size, 24, [.int .i64 Wd, .int .i64 Ht, .slice A xs.length k]⟩, ⟨w.heap.size + 1, 26, [.int .i64 x, .int .i64 y, .int .i64 t, .bool f]⟩, ⟨g5, 27, [.int .i64 0, .int .i64 0, .slice none 0 0]⟩] := HE.out.putF 2 rfl rfl
      have HB' := putL_below (show w.heap.size ≤ g5 from G5.out) [.int .i64 0, .int .i64 0, .slice none 0 0] _ 0 HB.out
      generalize putL X1 g5 0 [.int .i64 0, .int .i64 0, .slice none 0 0] = X2 at *
      replace HE := Hd.mk HE'
      replace HB := Hd.mk HB'
      clear HE' HB'
      go_upto_region 2 with fail
      refine wp_region_vg 10 [15, 16, 17, 18, 19, 20, 21, 22, 23, 24] [5, 6, 8, 9] [] 84 [.int .i64 0, .int .i64 0] [isV (.agg #[.int .i64 Wd, .int .i64 Ht, .slice A xs.length k]), isSt X2.heap.size Wd Ht (xs.take 70), isV (.bool (validB Wd Ht (xs.take 70))), isV (.agg #[.int .i64 Wd, .int .i64 Ht, .slice A xs.length k]), isV (.bool (validB Wd Ht xs)), isV (.bool false), isV (.bool false), isV (.bool true), isV (.bool false), isV (.bool false)] (by kernel_rfl) (by kernel_rfl) (by kernel_rfl) (by rfl) alloc_Z (fun d v c a w h => by cases d <;> exact h) ?_ ?_
      · intro qi qh qA aa wx hb hs hd
        match qi, qh, qA with
        | 0, _, _ => exact .inl ⟨rfl, op_ldU rfl rfl (hs 2 rfl) ((HE.out.to hb).get 0 rfl)⟩
        | 1, _, _ => exact .inl ⟨rfl, op_call1 rfl rfl Try.call15 (by rw [(show aa.eval (.tmp 15) = .agg #[.int .i64 Wd, .int .i64 Ht, .slice A xs.length k] from (hd 0 rfl))]; exact got_st hb.size (HSTY.out _ (HRI.out.to (bel_then HB.out hb))))⟩
        | 2, _, _ => exact .inl ⟨rfl, op_call1 rfl rfl Try.call16 (Valid_rd Wd Ht (xs.take 70) _ _ (rd_st (hd 1 rfl)))⟩
        | 3, _, _ => exact .inl ⟨rfl, op_ldU rfl rfl (hs 2 rfl) ((HE.out.to hb).get 0 rfl)⟩
        | 4, _, _ => exact .inl ⟨rfl, op_call1 rfl rfl Try.call17 (rValid_rd Wd Ht xs _ _ (rd_ex (xs := xs) (hd 3 rfl) (HRI.out.to (bel_then HB.out hb))))⟩
        | 5, _, _ => exact .inl ⟨rfl, pure_b (bool_eq HTK.out) (⟨_, op_neqB rfl (hd 2 rfl) (hd 4 rfl), rfl⟩)⟩
        | 6, _, _ => exact .inl ⟨rfl, op_mv rfl (hd 5 rfl)⟩
        | 7, _, _ => exact .inl ⟨⟨rfl, .inl (hd 6 rfl)⟩, op_call0 rfl rfl Try.call18 (awake_got _)⟩
        | 8, _, _ => exact .inl ⟨⟨rfl, .inl (hd 6 rfl)⟩, ⟨_, op_not rfl (hd 7 rfl), rfl⟩⟩
        | 9, _, _ => exact .inl ⟨rfl, ⟨_, op_pickF rfl (hd 6 rfl) (hd 8 rfl), rfl⟩⟩
        | qi + 10, h, _ => omega
      · intro vs X3 hb hv hal hne
        have HL0 := Hd.mk (HE.out.lt)
        have HBW := HB
        replace HB := Hd.mk (bel_then HB.out hb)
        replace HE : Hd (Env X3 [⟨w.heap.size, 24, [.int .i64 Wd, .int .i64 Ht, .slice A xs.length k]⟩, ⟨w.heap.size + 1, 26, [.int .i64 x, .int .i64 y, .int .i64 t, .bool f]⟩, ⟨g5, 27, [.int .i64 0, .int .i64 0, .slice none 0 0]⟩]) := ⟨HE.out.to hb⟩
        have HLS := HL0
        have e24 : vs 24 = .bool false := hv 9 (by decide) rfl
        simp only [putAll, List.foldl_cons, List.foldl_nil, Act.put, List.setIfInBounds_toArray, List.set_cons_succ, List.set_cons_zero, List.drop_succ_cons, List.drop_zero, e24]
        generalize vs 15 = s15
        generalize vs 16 = s16
        generalize vs 17 = s17
        generalize vs 18 = s18
        generalize vs 19 = s19
        generalize vs 20 = s20
        generalize vs 21 = s21
        generalize vs 22 = s22
        generalize vs 23 = s23
        clear hv hal hne hb HL0 HBW HLS e24
        go_upto_region 4 with fail
        refine wp_region_vd 12 [25, 26, 27, 28, 29, 30, 31, 32, 33, 34, 35, 36] [2, 3, 4, 6, 10, 11] [] 84 [.int .i64 0, .int .i64 0] [isV (.agg #[.int .i64 Wd, .int .i64 Ht, .slice A xs.length k]), isV (.bool true), isV (.bool false), isV (.bool false), isV (.pointer (some ⟨w.heap.size, 0, none⟩)), isV (.int .i64 Wd), isV (.pointer (some ⟨w.heap.size, 1, none⟩)), isV (.int .i64 Ht), isV (.agg #[.int .i64 x, .int .i64 y, .int .i64 t, .bool f]), isV (.bool false), isV (.bool true), isV (.bool true)] (by rfl) alloc_Z ?_ ?_
        · intro qi qh qA aa wx hb hs hd
          match qi, qh, qA with
          | 0, _, _ => exact .inl ⟨rfl, op_ldU rfl rfl (hs 2 rfl) ((HE.out.to hb).get 0 rfl)⟩
          | 1, _, _ => exact .inl ⟨rfl, wp_b (bool_eq HV.out) (op_call1 rfl rfl Try.call17 (rValid_rd Wd Ht xs _ _ (rd_ex (xs := xs) (hd 0 rfl) (HRI.out.to (bel_then HB.out hb)))))⟩
          | 2, _, _ => exact .inl ⟨rfl, ⟨_, op_not rfl (hd 1 rfl), rfl⟩⟩
          | 3, _, _ => exact .inl ⟨rfl, op_mv rfl (hd 2 rfl)⟩
          | 4, _, _ => exact .inl ⟨⟨rfl, .inl (hd 3 rfl)⟩, ⟨_, op_faU0 rfl (hs 2 rfl), rfl⟩⟩
          | 5, _, _ => exact .inl ⟨⟨rfl, .inl (hd 3 rfl)⟩, op_ldI rfl rfl (hd 4 rfl) ((HE.out.to hb).cell 0 0 rfl rfl)⟩
          | 6, _, _ => exact .inl ⟨⟨rfl, .inl (hd 3 rfl)⟩, ⟨_, op_faU1 rfl (hs 2 rfl), rfl⟩⟩
          | 7, _, _ => exact .inl ⟨⟨rfl, .inl (hd 3 rfl)⟩, op_ldI rfl rfl (hd 6 rfl) ((HE.out.to hb).cell 0 1 rfl rfl)⟩
          | 8, _, _ => exact .inl ⟨⟨rfl, .inl (hd 3 rfl)⟩, op_ldN rfl rfl (hs 3 rfl) ((HE.out.to hb).get 1 rfl)⟩
          | 9, _, _ => exact .inl ⟨⟨rfl, .inl (hd 3 rfl)⟩, wp_b (bool_eq HM.out) (op_call3 rfl rfl Try.call19 (by rw [(show aa.eval (.tmp 30) = .int .i64 Wd from (hd 5 rfl)), (show aa.eval (.tmp 32) = .int .i64 Ht from (hd 7 rfl)), (show aa.eval (.tmp 33) = .agg #[.int .i64 x, .int .i64 y, .int .i64 t, .bool f] from (hd 8 rfl))]; exact Fits_got Wd Ht x y t f _))⟩
          | 10, _, _ => exact .inl ⟨⟨rfl, .inl (hd 3 rfl)⟩, ⟨_, op_not rfl (hd 9 rfl), rfl⟩⟩
          | 11, _, _ => exact .inl ⟨rfl, ⟨_, op_pickF rfl (hd 3 rfl) (hd 10 rfl), rfl⟩⟩
          | qi + 12, h, _ => omega
        · intro vs X4 hb hv hal hne
          have HL0 := Hd.mk (HE.out.lt)
          have HBW := HB
          replace HB := Hd.mk (bel_then HB.out hb)
          replace HE : Hd (Env X4 [⟨w.heap.size, 24, [.int .i64 Wd, .int .i64 Ht, .slice A xs.length k]⟩, ⟨w.heap.size + 1, 26, [.int .i64 x, .int .i64 y, .int .i64 t, .bool f]⟩, ⟨g5, 27, [.int .i64 0, .int .i64 0, .slice none 0 0]⟩]) := ⟨HE.out.to hb⟩
          have HLS := HL0
          have e36 : vs 36 = .bool true := hv 11 (by decide) rfl
          simp only [putAll, List.foldl_cons, List.foldl_nil, Act.put, List.setIfInBounds_toArray, List.set_cons_succ, List.set_cons_zero, List.drop_succ_cons, List.drop_zero, e36]
          generalize vs 25 = s25
          generalize vs 26 = s26
          generalize vs 27 = s27
          generalize vs 28 = s28
          generalize vs 29 = s29
          generalize vs 30 = s30
          generalize vs 31 = s31
          generalize vs 32 = s32
          generalize vs 33 = s33
          generalize vs 34 = s34
          generalize vs 35 = s35
          clear hv hal hne hb HL0 HBW HLS e36
          go_upto_region 5 with fail
          refine wp_region_vd 8 [37, 38, 39, 40, 41, 42, 43, 44] [2, 4, 5, 6, 7] [] 84 [.int .i64 0, .int .i64 0] [isV (.agg #[.int .i64 0, .int .i64 0, .slice none 0 0]), isV (.agg #[.int .i64 0, .int .i64 0, .slice none 0 0]), isV (.agg #[.int .i64 0, .int .i64 0, .slice none 0 0]), isV (.bool true), isV (.bool true), isV (.int .i64 2), isV (.bool true), isV (.bool true)] (by rfl) alloc_Z ?_ ?_
          · intro qi qh qA aa wx hb hs hd
            match qi, qh, qA with
            | 0, _, _ => exact .inl ⟨rfl, op_ldT rfl rfl (hs 5 rfl) ((HE.out.to hb).get 2 rfl)⟩
            | 1, _, _ => exact .inl ⟨rfl, op_call1 rfl rfl Try.call21 (by rw [(show aa.eval (.tmp 37) = .agg #[.int .i64 0, .int .i64 0, .slice none 0 0] from (hd 0 rfl))]; exact own_got 0 0 none 0 0 _)⟩
            | 2, _, _ => exact .inl ⟨rfl, ⟨_, op_b0U rfl, rfl⟩⟩
            | 3, _, _ => exact .inl ⟨rfl, op_call2 rfl rfl Try.call20 (same_yes 0 0 ([]) (by simp only [apL_length, List.length_cons, List.length_nil]; omega) _ _ _ (rd_ex (xs := []) (hd 1 rfl) (RI.nil _ _)) (rd_ex (xs := []) (hd 2 rfl) (RI.nil _ _)))⟩
            | 4, _, _ => exact .inl ⟨rfl, op_mv rfl (hd 3 rfl)⟩
            | 5, _, _ => exact .inl ⟨⟨rfl, .inl (hd 4 rfl)⟩, op_mv rfl (hs 6 rfl)⟩
            | 6, _, _ => exact .inl ⟨⟨rfl, .inl (hd 4 rfl)⟩, pure_b (bool_eq (by decide)) (⟨_, op_eqlE rfl (hd 5 rfl) rfl, rfl⟩)⟩
            | 7, _, _ => exact .inl ⟨rfl, ⟨_, op_pickT rfl (hd 4 rfl) (hd 6 rfl), rfl⟩⟩
            | qi + 8, h, _ => omega
          · intro vs X5 hb hv hal hne
            have HL0 := Hd.mk (HE.out.lt)
            have HBW := HB
            replace HB := Hd.mk (bel_then HB.out hb)
            replace HE : Hd (Env X5 [⟨w.heap.size, 24, [.int .i64 Wd, .int .i64 Ht, .slice A xs.length k]⟩, ⟨w.heap.size + 1, 26, [.int .i64 x, .int .i64 y, .int .i64 t, .bool f]⟩, ⟨g5, 27, [.int .i64 0, .int .i64 0, .slice none 0 0]⟩]) := ⟨HE.out.to hb⟩
            have HLS := HL0
            have e44 : vs 44 = .bool true := hv 7 (by decide) rfl
            simp only [putAll, List.foldl_cons, List.foldl_nil, Act.put, List.setIfInBounds_toArray, List.set_cons_succ, List.set_cons_zero, List.drop_succ_cons, List.drop_zero, e44]
            generalize vs 37 = s37
            generalize vs 38 = s38
            generalize vs 39 = s39
            generalize vs 40 = s40
            generalize vs 41 = s41
            generalize vs 42 = s42
            generalize vs 43 = s43
            clear hv hal hne hb HL0 HBW HLS e44
            go_wp2_with fail
            go_ret
            exact ⟨_, rfl, HB.out, rfl⟩
  · have hv' : validB Wd Ht xs = false := by simpa using hv
    have HV := Hd.mk hv'
    clear hv hv' hn
    go_enter Try.func3, Try.ntmps3
    go_upto_region 1 with fail
    obtain ⟨W0, hW0⟩ : ∃ W : World, W = (w.alloc (.cells #[.int .i64 Wd, .int .i64 Ht, .slice A xs.length k] 24)).alloc (.cells #[.int .i64 x, .int .i64 y, .int .i64 t, .bool f] 26) := ⟨_, rfl⟩
    rw [← hW0]
    obtain ⟨he, hb⟩ := env_two hW0
    have HE := Hd.mk he
    have HB := Hd.mk hb
    clear he hb hW0
    refine wp_region_vs 9 [8, 9, 10, 11, 12, 7, 13, 14, 5] [5, 6, 7] [8] 27 [.int .i64 0, .int .i64 0, .slice none 0 0] [isV (.agg #[.int .i64 x, .int .i64 y, .int .i64 t, .bool f]), isV (.agg #[.int .i64 x, .int .i64 y, .int .i64 t, .bool f]), isV (.agg #[.int .i64 Wd, .int .i64 Ht, .slice A xs.length k]), isSt W0.heap.size Wd Ht (xs.take 70), isP (isV (.agg #[.int .i64 0, .int .i64 0, .slice none 0 0])) (isV (.int .i64 2)), isP (isV (.agg #[.int .i64 0, .int .i64 0, .slice none 0 0])) (isV (.int .i64 2)), isV (.agg #[.int .i64 0, .int .i64 0, .slice none 0 0]), isV (.int .i64 2), SP.any] (by kernel_rfl) (by kernel_rfl) (by kernel_rfl) (by rfl) alloc_T (fun d v c a w h => by cases d <;> exact h) ?_ ?_
    · intro qi qh qA aa wx hb hs hd
      match qi, qh, qA with
      | 0, _, _ => exact op_ldN rfl rfl (hs 3 rfl) ((HE.out.to hb).get 1 rfl)
      | 1, _, _ => exact op_call1 rfl rfl Try.call14 (by rw [(show aa.eval (.tmp 8) = .agg #[.int .i64 x, .int .i64 y, .int .i64 t, .bool f] from (hd 0 rfl))]; exact move_got x y t f _)
      | 2, _, _ => exact op_ldU rfl rfl (hs 2 rfl) ((HE.out.to hb).get 0 rfl)
      | 3, _, _ => exact op_call1 rfl rfl Try.call15 (by rw [(show aa.eval (.tmp 10) = .agg #[.int .i64 Wd, .int .i64 Ht, .slice A xs.length k] from (hd 2 rfl))]; exact got_st hb.size (HSTY.out _ (HRI.out.to (bel_then HB.out hb))))
      | 4, _, _ => exact op_call2 rfl rfl Try.call13 (by rw [show aa.eval (.tmp 9) = .agg #[.int .i64 x, .int .i64 y, .int .i64 t, .bool f] from (hd 1 rfl)]; exact Apply_rd_no Wd Ht x y t f (xs.take 70) HN.out _ _ (rd_st (hd 3 rfl)))
      | 5, _, _ => exact op_mv rfl (hd 4 rfl)
      | 6, _, _ => exact op_fst rfl (hd 5 rfl)
      | 7, _, _ => exact op_snd rfl (hd 5 rfl)
      | 8, _, h => cases h
      | qi + 9, h, _ => omega
    · intro vs X1 hb hv hal hne
      have HL0 := Hd.mk (HE.out.lt)
      have HBW := HB
      replace HB := Hd.mk (bel_then HB.out hb)
      replace HE : Hd (Env X1 [⟨w.heap.size, 24, [.int .i64 Wd, .int .i64 Ht, .slice A xs.length k]⟩, ⟨w.heap.size + 1, 26, [.int .i64 x, .int .i64 y, .int .i64 t, .bool f]⟩]) := ⟨HE.out.to hb⟩
      have HLS := HL0
      have e13 : vs 13 = .agg #[.int .i64 0, .int .i64 0, .slice none 0 0] := hv 6 (by decide) rfl
      have e14 : vs 14 = .int .i64 2 := hv 7 (by decide) rfl
      obtain ⟨g5, e5, l5, b5⟩ : ∃ g, vs 5 = .pointer (some ⟨g, 0, none⟩) ∧ _ := hal 8 rfl
      replace HE : Hd (Env X1 [⟨w.heap.size, 24, [.int .i64 Wd, .int .i64 Ht, .slice A xs.length k]⟩, ⟨w.heap.size + 1, 26, [.int .i64 x, .int .i64 y, .int .i64 t, .bool f]⟩, ⟨g5, 27, [.int .i64 0, .int .i64 0, .slice none 0 0]⟩]) := ⟨Env.addne (e := ⟨g5, 27, [.int .i64 0, .int .i64 0, .slice none 0 0]⟩) HE.out b5 (fun e' he => Nat.ne_of_lt (Nat.lt_of_lt_of_le (HL0.out e' he) l5))⟩
      have G5 : Hd (w.heap.size ≤ g5) := ⟨Nat.le_trans HBW.out.size l5⟩
      simp only [putAll, List.foldl_cons, List.foldl_nil, Act.put, List.setIfInBounds_toArray, List.set_cons_succ, List.set_cons_zero, List.drop_succ_cons, List.drop_zero, e13, e14, e5]
      generalize vs 8 = s8
      generalize vs 9 = s9
      generalize vs 10 = s10
      generalize vs 11 = s11
      generalize vs 12 = s12
      generalize vs 7 = s7
      clear hv hal hne hb HL0 HBW HLS e13 e14 e5 l5 b5
      refine wpList_st rfl rfl rfl rfl rfl (sto_T (HE.out.get 2 rfl)) ?_
      have HE' : Env (putL X1 g5 0 [.int .i64 0, .int .i64 0, .slice none 0 0]) [⟨w.heap.size, 24, [.int .i64 Wd, .int .i64 Ht, .slice A xs.length k]⟩, ⟨w.heap.size + 1, 26, [.int .i64 x, .int .i64 y, .int .i64 t, .bool f]⟩, ⟨g5, 27, [.int .i64 0, .int .i64 0, .slice none 0 0]⟩] := HE.out.putF 2 rfl rfl
      have HB' := putL_below (show w.heap.size ≤ g5 from G5.out) [.int .i64 0, .int .i64 0, .slice none 0 0] _ 0 HB.out
      generalize putL X1 g5 0 [.int .i64 0, .int .i64 0, .slice none 0 0] = X2 at *
      replace HE := Hd.mk HE'
      replace HB := Hd.mk HB'
      clear HE' HB'
      go_upto_region 2 with fail
      refine wp_region_vg 10 [15, 16, 17, 18, 19, 20, 21, 22, 23, 24] [5, 6, 8, 9] [] 84 [.int .i64 0, .int .i64 0] [isV (.agg #[.int .i64 Wd, .int .i64 Ht, .slice A xs.length k]), isSt X2.heap.size Wd Ht (xs.take 70), isV (.bool (validB Wd Ht (xs.take 70))), isV (.agg #[.int .i64 Wd, .int .i64 Ht, .slice A xs.length k]), isV (.bool (validB Wd Ht xs)), isV (.bool false), isV (.bool false), isV (.bool true), isV (.bool false), isV (.bool false)] (by kernel_rfl) (by kernel_rfl) (by kernel_rfl) (by rfl) alloc_Z (fun d v c a w h => by cases d <;> exact h) ?_ ?_
      · intro qi qh qA aa wx hb hs hd
        match qi, qh, qA with
        | 0, _, _ => exact .inl ⟨rfl, op_ldU rfl rfl (hs 2 rfl) ((HE.out.to hb).get 0 rfl)⟩
        | 1, _, _ => exact .inl ⟨rfl, op_call1 rfl rfl Try.call15 (by rw [(show aa.eval (.tmp 15) = .agg #[.int .i64 Wd, .int .i64 Ht, .slice A xs.length k] from (hd 0 rfl))]; exact got_st hb.size (HSTY.out _ (HRI.out.to (bel_then HB.out hb))))⟩
        | 2, _, _ => exact .inl ⟨rfl, op_call1 rfl rfl Try.call16 (Valid_rd Wd Ht (xs.take 70) _ _ (rd_st (hd 1 rfl)))⟩
        | 3, _, _ => exact .inl ⟨rfl, op_ldU rfl rfl (hs 2 rfl) ((HE.out.to hb).get 0 rfl)⟩
        | 4, _, _ => exact .inl ⟨rfl, op_call1 rfl rfl Try.call17 (rValid_rd Wd Ht xs _ _ (rd_ex (xs := xs) (hd 3 rfl) (HRI.out.to (bel_then HB.out hb))))⟩
        | 5, _, _ => exact .inl ⟨rfl, pure_b (bool_eq HTK.out) (⟨_, op_neqB rfl (hd 2 rfl) (hd 4 rfl), rfl⟩)⟩
        | 6, _, _ => exact .inl ⟨rfl, op_mv rfl (hd 5 rfl)⟩
        | 7, _, _ => exact .inl ⟨⟨rfl, .inl (hd 6 rfl)⟩, op_call0 rfl rfl Try.call18 (awake_got _)⟩
        | 8, _, _ => exact .inl ⟨⟨rfl, .inl (hd 6 rfl)⟩, ⟨_, op_not rfl (hd 7 rfl), rfl⟩⟩
        | 9, _, _ => exact .inl ⟨rfl, ⟨_, op_pickF rfl (hd 6 rfl) (hd 8 rfl), rfl⟩⟩
        | qi + 10, h, _ => omega
      · intro vs X3 hb hv hal hne
        have HL0 := Hd.mk (HE.out.lt)
        have HBW := HB
        replace HB := Hd.mk (bel_then HB.out hb)
        replace HE : Hd (Env X3 [⟨w.heap.size, 24, [.int .i64 Wd, .int .i64 Ht, .slice A xs.length k]⟩, ⟨w.heap.size + 1, 26, [.int .i64 x, .int .i64 y, .int .i64 t, .bool f]⟩, ⟨g5, 27, [.int .i64 0, .int .i64 0, .slice none 0 0]⟩]) := ⟨HE.out.to hb⟩
        have HLS := HL0
        have e24 : vs 24 = .bool false := hv 9 (by decide) rfl
        simp only [putAll, List.foldl_cons, List.foldl_nil, Act.put, List.setIfInBounds_toArray, List.set_cons_succ, List.set_cons_zero, List.drop_succ_cons, List.drop_zero, e24]
        generalize vs 15 = s15
        generalize vs 16 = s16
        generalize vs 17 = s17
        generalize vs 18 = s18
        generalize vs 19 = s19
        generalize vs 20 = s20
        generalize vs 21 = s21
        generalize vs 22 = s22
        generalize vs 23 = s23
        clear hv hal hne hb HL0 HBW HLS e24
        go_upto_region 4 with fail
        refine wp_region_vd 12 [25, 26, 27, 28, 29, 30, 31, 32, 33, 34, 35, 36] [2, 3, 11] [] 84 [.int .i64 0, .int .i64 0] [isV (.agg #[.int .i64 Wd, .int .i64 Ht, .slice A xs.length k]), isV (.bool false), isV (.bool true), isV (.bool true), isV undef, isV undef, isV undef, isV undef, isV undef, isV undef, isV undef, isV (.bool true)] (by rfl) alloc_Z ?_ ?_
        · intro qi qh qA aa wx hb hs hd
          match qi, qh, qA with
          | 0, _, _ => exact .inl ⟨rfl, op_ldU rfl rfl (hs 2 rfl) ((HE.out.to hb).get 0 rfl)⟩
          | 1, _, _ => exact .inl ⟨rfl, wp_b (bool_eq HV.out) (op_call1 rfl rfl Try.call17 (rValid_rd Wd Ht xs _ _ (rd_ex (xs := xs) (hd 0 rfl) (HRI.out.to (bel_then HB.out hb)))))⟩
          | 2, _, _ => exact .inl ⟨rfl, ⟨_, op_not rfl (hd 1 rfl), rfl⟩⟩
          | 3, _, _ => exact .inl ⟨rfl, op_mv rfl (hd 2 rfl)⟩
          | 4, _, _ => exact .inr ⟨⟨rfl, .inl (hd 3 rfl)⟩, rfl⟩
          | 5, _, _ => exact .inr ⟨⟨rfl, .inl (hd 3 rfl)⟩, rfl⟩
          | 6, _, _ => exact .inr ⟨⟨rfl, .inl (hd 3 rfl)⟩, rfl⟩
          | 7, _, _ => exact .inr ⟨⟨rfl, .inl (hd 3 rfl)⟩, rfl⟩
          | 8, _, _ => exact .inr ⟨⟨rfl, .inl (hd 3 rfl)⟩, rfl⟩
          | 9, _, _ => exact .inr ⟨⟨rfl, .inl (hd 3 rfl)⟩, rfl⟩
          | 10, _, _ => exact .inr ⟨⟨rfl, .inl (hd 3 rfl)⟩, rfl⟩
          | 11, _, _ => exact .inl ⟨rfl, ⟨_, op_pickT rfl (hd 3 rfl) rfl, rfl⟩⟩
          | qi + 12, h, _ => omega
        · intro vs X4 hb hv hal hne
          have HL0 := Hd.mk (HE.out.lt)
          have HBW := HB
          replace HB := Hd.mk (bel_then HB.out hb)
          replace HE : Hd (Env X4 [⟨w.heap.size, 24, [.int .i64 Wd, .int .i64 Ht, .slice A xs.length k]⟩, ⟨w.heap.size + 1, 26, [.int .i64 x, .int .i64 y, .int .i64 t, .bool f]⟩, ⟨g5, 27, [.int .i64 0, .int .i64 0, .slice none 0 0]⟩]) := ⟨HE.out.to hb⟩
          have HLS := HL0
          have e36 : vs 36 = .bool true := hv 11 (by decide) rfl
          simp only [putAll, List.foldl_cons, List.foldl_nil, Act.put, List.setIfInBounds_toArray, List.set_cons_succ, List.set_cons_zero, List.drop_succ_cons, List.drop_zero, e36]
          generalize vs 25 = s25
          generalize vs 26 = s26
          generalize vs 27 = s27
          generalize vs 28 = s28
          generalize vs 29 = s29
          generalize vs 30 = s30
          generalize vs 31 = s31
          generalize vs 32 = s32
          generalize vs 33 = s33
          generalize vs 34 = s34
          generalize vs 35 = s35
          clear hv hal hne hb HL0 HBW HLS e36
          go_upto_region 5 with fail
          refine wp_region_vd 8 [37, 38, 39, 40, 41, 42, 43, 44] [2, 4, 5, 6, 7] [] 84 [.int .i64 0, .int .i64 0] [isV (.agg #[.int .i64 0, .int .i64 0, .slice none 0 0]), isV (.agg #[.int .i64 0, .int .i64 0, .slice none 0 0]), isV (.agg #[.int .i64 0, .int .i64 0, .slice none 0 0]), isV (.bool true), isV (.bool true), isV (.int .i64 2), isV (.bool true), isV (.bool true)] (by rfl) alloc_Z ?_ ?_
          · intro qi qh qA aa wx hb hs hd
            match qi, qh, qA with
            | 0, _, _ => exact .inl ⟨rfl, op_ldT rfl rfl (hs 5 rfl) ((HE.out.to hb).get 2 rfl)⟩
            | 1, _, _ => exact .inl ⟨rfl, op_call1 rfl rfl Try.call21 (by rw [(show aa.eval (.tmp 37) = .agg #[.int .i64 0, .int .i64 0, .slice none 0 0] from (hd 0 rfl))]; exact own_got 0 0 none 0 0 _)⟩
            | 2, _, _ => exact .inl ⟨rfl, ⟨_, op_b0U rfl, rfl⟩⟩
            | 3, _, _ => exact .inl ⟨rfl, op_call2 rfl rfl Try.call20 (same_yes 0 0 ([]) (by simp only [apL_length, List.length_cons, List.length_nil]; omega) _ _ _ (rd_ex (xs := []) (hd 1 rfl) (RI.nil _ _)) (rd_ex (xs := []) (hd 2 rfl) (RI.nil _ _)))⟩
            | 4, _, _ => exact .inl ⟨rfl, op_mv rfl (hd 3 rfl)⟩
            | 5, _, _ => exact .inl ⟨⟨rfl, .inl (hd 4 rfl)⟩, op_mv rfl (hs 6 rfl)⟩
            | 6, _, _ => exact .inl ⟨⟨rfl, .inl (hd 4 rfl)⟩, pure_b (bool_eq (by decide)) (⟨_, op_eqlE rfl (hd 5 rfl) rfl, rfl⟩)⟩
            | 7, _, _ => exact .inl ⟨rfl, ⟨_, op_pickT rfl (hd 4 rfl) (hd 6 rfl), rfl⟩⟩
            | qi + 8, h, _ => omega
          · intro vs X5 hb hv hal hne
            have HL0 := Hd.mk (HE.out.lt)
            have HBW := HB
            replace HB := Hd.mk (bel_then HB.out hb)
            replace HE : Hd (Env X5 [⟨w.heap.size, 24, [.int .i64 Wd, .int .i64 Ht, .slice A xs.length k]⟩, ⟨w.heap.size + 1, 26, [.int .i64 x, .int .i64 y, .int .i64 t, .bool f]⟩, ⟨g5, 27, [.int .i64 0, .int .i64 0, .slice none 0 0]⟩]) := ⟨HE.out.to hb⟩
            have HLS := HL0
            have e44 : vs 44 = .bool true := hv 7 (by decide) rfl
            simp only [putAll, List.foldl_cons, List.foldl_nil, Act.put, List.setIfInBounds_toArray, List.set_cons_succ, List.set_cons_zero, List.drop_succ_cons, List.drop_zero, e44]
            generalize vs 37 = s37
            generalize vs 38 = s38
            generalize vs 39 = s39
            generalize vs 40 = s40
            generalize vs 41 = s41
            generalize vs 42 = s42
            generalize vs 43 = s43
            clear hv hal hne hb HL0 HBW HLS e44
            go_wp2_with fail
            go_ret
            exact ⟨_, rfl, HB.out, rfl⟩
end Go.Proofs.Ytddbmckbankmeaa
