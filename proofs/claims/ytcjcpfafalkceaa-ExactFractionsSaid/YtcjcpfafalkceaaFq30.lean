/- Part 30 of the texts behind this claim. -/
import Derived.Test.YtcjcpfafalkceaaFq28
set_option linter.unusedVariables false
set_option linter.unusedSimpArgs false
namespace Go.Proofs.Ytcjcpfafalkceaa
open Go.RowKit
def fitb (a b : Int) : Bool := decide (ln a.natAbs ≤ 256) && decide (ln b.natAbs ≤ 256)
def fitn (a b : Int) : Int := if fitb a b = true then a else 0
def fitd (a b : Int) : Int := if fitb a b = true then b else 0
def fitc (a b : Int) : Int := if fitb a b = true then 0 else 5
theorem fit_max (a b : Int) : decide ((256 : Int) < if ((ln a.natAbs : Nat) : Int) < ((ln b.natAbs : Nat) : Int) then ((ln b.natAbs : Nat) : Int) else ((ln a.natAbs : Nat) : Int)) = !fitb a b := by
  unfold fitb
  rw [Bool.eq_iff_iff]
  by_cases h : ((ln a.natAbs : Nat) : Int) < ((ln b.natAbs : Nat) : Int)
  · rw [if_pos h]
    simp
    omega
  · rw [if_neg h]
    simp
    omega
theorem RQ.ok_n {f : RQ} (h : f.ok = true) : f.n.ok = true := by unfold RQ.ok at h; simp at h; exact h.1.1
theorem RQ.ok_d {f : RQ} (h : f.ok = true) : f.d.ok = true := by unfold RQ.ok at h; simp at h; exact h.1.2
theorem RQ.ok_pos {f : RQ} (h : f.ok = true) : 0 < f.d.val := by unfold RQ.ok at h; simp at h; exact h.2.1
theorem RQ.ok_gcd {f : RQ} (h : f.ok = true) : Int.gcd f.n.val f.d.val = 1 := by unfold RQ.ok at h; simp at h; rw [Int.gcd_eq_natAbs_gcd_natAbs]; exact h.2.2
theorem rC_len {r : Raw} {u v : Value} {w : World} (ho : r.ok = true) (h : (rC r).p u v w) : ln r.val.natAbs ≤ 256 := Raw.ok_len ho h.2.2.2.1
theorem rz_two {f : RQ} {v : Value} {w : World} (ho : f.ok = true) (h : (isL [rC f.n, rC f.d]).p v w) : (isL [zC f.n.val, zC f.d.val]).p v w := by
  obtain ⟨a, b, c, d, rfl, h1, h2⟩ := isL_two.1 h
  exact isL_two.2 ⟨a, b, c, d, rfl, rC_zC (RQ.ok_n ho) h1, rC_zC (RQ.ok_d ho) h2⟩
theorem rZero_got (x : Int) (v1 : Value) (w : World) (h1 : (isZ x).p v1 w) (l1 : ln x.natAbs ≤ 1073741824) : Calls Try.prog 44 #[v1] w (Got w (isV (.bool (decide (x = 0)))).p) := by
  have e : decide (x = 0) = decide (ln x.natAbs = 0) := decide_eq_decide.2 (by rw [ln_eq_zero, Int.natAbs_eq_zero])
  rw [e]
  exact z1 (fun A1 c1 h1 => rZero_calls _ A1 _ c1 _ (by omega)) (fun e w' h => same_got h) h1
def rqn (f g : RQ) (N D : Int) : Int := if (f.ok && g.ok) = true then fitn (qn N D) (qd N D) else 0
def rqd (f g : RQ) (N D : Int) : Int := if (f.ok && g.ok) = true then fitd (qn N D) (qd N D) else 0
def rqe (f g : RQ) (N D : Int) : Int := if (f.ok && g.ok) = true then fitc (qn N D) (qd N D) else 2
set_option maxRecDepth 100000 in
set_option maxHeartbeats 1000000 in
theorem ratOf_got (f : RQ) (hf : f.ok = true) (v0 : Value) (w : World) (h0 : (isL [rC f.n, rC f.d]).p v0 w) :
    Calls Try.prog 103 #[v0] w (Got w (isL [zC f.n.val, zC f.d.val]).p) := by
  obtain ⟨u0, x0, y0, z0, rfl, p0, q0⟩ := isL_two.1 h0
  clear h0
  have HK1 := Hd.mk (RQ.ok_n hf)
  have HK2 := Hd.mk (RQ.ok_d hf)
  clear hf
  go_enter Try.func103, Try.ntmps103
  go_upto_region 1 with fail
  obtain ⟨W0, hW0⟩ : ∃ W : World, W = (w.alloc (.cells #[u0, x0, y0, z0] 58)).alloc (.cells #[Value.bool false, Value.slice none 0 0, Value.bool false, Value.slice none 0 0] 103) := ⟨_, rfl⟩
  rw [← hW0]
  obtain ⟨he, hb⟩ := env_two (cp2 p0 q0) (cp2 (cp0 _) (cp0 _)) hW0
  have HE := Hd.mk he
  have HB := Hd.mk hb
  clear he hb hW0
  refine wp_region_vs 7 [3, 4, 5, 6, 7, 8, 9] [0, 3, 6] [] 70 [.bool false, .slice none 0 0] [isV (.pointer (some ⟨w.heap.size, 0, none⟩)), isL [rC f.n], isZ f.n.val, isV (.pointer (some ⟨w.heap.size, 2, none⟩)), isL [rC f.d], isZ f.d.val, isL [zC f.n.val, zC f.d.val]] (by kernel_rfl) (by kernel_rfl) (by kernel_rfl) (by rfl) alloc_whole (fun d v c a w h => by cases d <;> exact h) ?_ ?_
  · intro i hi hA aa wx hb hs hd
    match i, hi, hA with
    | 0, _, _ => exact ⟨_, op_faR0 rfl (hs 1 rfl), rfl⟩
    | 1, _, _ => exact op_ldI rfl rfl (hd 0 rfl) ((HE.out.to hb).get 0 rfl).a0
    | 2, _, _ => exact op_call1 rfl rfl Try.call69 (of_rz f.n HK1.out _ _ (hd 1 rfl))
    | 3, _, _ => exact ⟨_, op_faR1 rfl (hs 1 rfl), rfl⟩
    | 4, _, _ => exact op_ldI rfl rfl (hd 3 rfl) ((HE.out.to hb).get 0 rfl).a2
    | 5, _, _ => exact op_call1 rfl rfl Try.call69 (of_rz f.d HK2.out _ _ (hd 4 rfl))
    | 6, _, _ => exact op_bdQ rfl (isL_isZ.2 (hd 2 rfl)) (isL_isZ.2 (hd 5 rfl))
    | i + 7, h, _ => omega
  · intro vs X1 hb hv hal hne
    replace HB := Hd.mk (bel_then HB.out hb)
    replace HE : Hd (Env X1 [⟨w.heap.size, 58, [rC f.n, rC f.d]⟩, ⟨w.heap.size + 1, 103, [zC 0, zC 0]⟩]) := ⟨HE.out.to hb⟩
    have t9 : (isL [zC f.n.val, zC f.d.val]).p (vs 9) X1 := hv 6 (by decide) rfl
    obtain ⟨u9, y9, p9, q9, e9, c9, k9⟩ := isL_two.1 t9
    simp only [putAll, List.foldl_cons, List.foldl_nil, Act.put, List.setIfInBounds_toArray, List.set_cons_succ, List.set_cons_zero, List.drop_succ_cons, List.drop_zero, e9]
    generalize vs 3 = s3
    generalize vs 4 = s4
    generalize vs 5 = s5
    generalize vs 6 = s6
    generalize vs 7 = s7
    generalize vs 8 = s8
    refine wpList_st rfl rfl rfl rfl rfl (sto_Q c9 k9 (HE.out.get 1 rfl)) ?_
    have HE' : Env (putAt (putAt X1 (w.heap.size + 1) 0 u9 y9) (w.heap.size + 1) 2 p9 q9) [⟨w.heap.size, 58, [rC f.n, rC f.d]⟩, ⟨w.heap.size + 1, 103, [zC f.n.val, zC f.d.val]⟩] := HE.out.put4 1 rfl c9 k9
    have HB' := below_put4 (u := u9) (v := y9) (u' := p9) (v' := q9) HB.out (show w.heap.size ≤ w.heap.size + 1 from by omega)
    generalize putAt (putAt X1 (w.heap.size + 1) 0 u9 y9) (w.heap.size + 1) 2 p9 q9 = X2 at *
    replace HE := Hd.mk HE'
    replace HB := Hd.mk HB'
    clear HE' HB'
    clear hv hal hne hb
    go_wp2_with fail
    obtain ⟨r0a, r0b, r0c, r0d, k0a, k0b, k0c, k0d, h0a, h0b⟩ := (HE.out.get 1 rfl).cells2
    refine bodyPost_ret (v := .agg #[r0a, r0b, r0c, r0d]) (by simp [results, Try.results103, go_sem, k0a, k0b, k0c, k0d]) rfl ?_
    exact ⟨_, rfl, HB.out, isL_two.2 ⟨_, _, _, _, rfl, h0a, h0b⟩⟩
set_option maxRecDepth 100000 in
set_option maxHeartbeats 1000000 in
theorem OfRat_got (f : RQ) (hf : f.ok = true) (v0 : Value) (w : World) (h0 : (isL [rC f.n, rC f.d]).p v0 w) :
    Calls Try.prog 109 #[v0] w (Got w (isL [zC f.n.val, zC f.d.val]).p) := by
  obtain ⟨u0, x0, y0, z0, rfl, p0, q0⟩ := isL_two.1 h0
  clear h0
  have HK1 := Hd.mk (RQ.ok_n hf)
  have HK2 := Hd.mk (RQ.ok_d hf)
  clear hf
  go_enter Try.func109, Try.ntmps109
  go_upto_region 1 with fail
  obtain ⟨W0, hW0⟩ : ∃ W : World, W = (w.alloc (.cells #[u0, x0, y0, z0] 58)).alloc (.cells #[Value.bool false, Value.slice none 0 0, Value.bool false, Value.slice none 0 0] 109) := ⟨_, rfl⟩
  rw [← hW0]
  obtain ⟨he, hb⟩ := env_two (cp2 p0 q0) (cp2 (cp0 _) (cp0 _)) hW0
  have HE := Hd.mk he
  have HB := Hd.mk hb
  clear he hb hW0
  refine wp_region_vs 7 [3, 4, 5, 6, 7, 8, 9] [0, 3, 6] [] 70 [.bool false, .slice none 0 0] [isV (.pointer (some ⟨w.heap.size, 0, none⟩)), isL [rC f.n], isZ f.n.val, isV (.pointer (some ⟨w.heap.size, 2, none⟩)), isL [rC f.d], isZ f.d.val, isL [zC f.n.val, zC f.d.val]] (by kernel_rfl) (by kernel_rfl) (by kernel_rfl) (by rfl) alloc_whole (fun d v c a w h => by cases d <;> exact h) ?_ ?_
  · intro i hi hA aa wx hb hs hd
    match i, hi, hA with
    | 0, _, _ => exact ⟨_, op_faR0 rfl (hs 1 rfl), rfl⟩
    | 1, _, _ => exact op_ldI rfl rfl (hd 0 rfl) ((HE.out.to hb).get 0 rfl).a0
    | 2, _, _ => exact op_call1 rfl rfl Try.call32 (rOf_rz f.n HK1.out _ _ (hd 1 rfl))
    | 3, _, _ => exact ⟨_, op_faR1 rfl (hs 1 rfl), rfl⟩
    | 4, _, _ => exact op_ldI rfl rfl (hd 3 rfl) ((HE.out.to hb).get 0 rfl).a2
    | 5, _, _ => exact op_call1 rfl rfl Try.call32 (rOf_rz f.d HK2.out _ _ (hd 4 rfl))
    | 6, _, _ => exact op_bdS rfl (isL_isZ.2 (hd 2 rfl)) (isL_isZ.2 (hd 5 rfl))
    | i + 7, h, _ => omega
  · intro vs X1 hb hv hal hne
    replace HB := Hd.mk (bel_then HB.out hb)
    replace HE : Hd (Env X1 [⟨w.heap.size, 58, [rC f.n, rC f.d]⟩, ⟨w.heap.size + 1, 109, [zC 0, zC 0]⟩]) := ⟨HE.out.to hb⟩
    have t9 : (isL [zC f.n.val, zC f.d.val]).p (vs 9) X1 := hv 6 (by decide) rfl
    obtain ⟨u9, y9, p9, q9, e9, c9, k9⟩ := isL_two.1 t9
    simp only [putAll, List.foldl_cons, List.foldl_nil, Act.put, List.setIfInBounds_toArray, List.set_cons_succ, List.set_cons_zero, List.drop_succ_cons, List.drop_zero, e9]
    generalize vs 3 = s3
    generalize vs 4 = s4
    generalize vs 5 = s5
    generalize vs 6 = s6
    generalize vs 7 = s7
    generalize vs 8 = s8
    refine wpList_st rfl rfl rfl rfl rfl (sto_S c9 k9 (HE.out.get 1 rfl)) ?_
    have HE' : Env (putAt (putAt X1 (w.heap.size + 1) 0 u9 y9) (w.heap.size + 1) 2 p9 q9) [⟨w.heap.size, 58, [rC f.n, rC f.d]⟩, ⟨w.heap.size + 1, 109, [zC f.n.val, zC f.d.val]⟩] := HE.out.put4 1 rfl c9 k9
    have HB' := below_put4 (u := u9) (v := y9) (u' := p9) (v' := q9) HB.out (show w.heap.size ≤ w.heap.size + 1 from by omega)
    generalize putAt (putAt X1 (w.heap.size + 1) 0 u9 y9) (w.heap.size + 1) 2 p9 q9 = X2 at *
    replace HE := Hd.mk HE'
    replace HB := Hd.mk HB'
    clear HE' HB'
    clear hv hal hne hb
    go_wp2_with fail
    obtain ⟨r0a, r0b, r0c, r0d, k0a, k0b, k0c, k0d, h0a, h0b⟩ := (HE.out.get 1 rfl).cells2
    refine bodyPost_ret (v := .agg #[r0a, r0b, r0c, r0d]) (by simp [results, Try.results109, go_sem, k0a, k0b, k0c, k0d]) rfl ?_
    exact ⟨_, rfl, HB.out, isL_two.2 ⟨_, _, _, _, rfl, h0a, h0b⟩⟩
set_option maxRecDepth 100000 in
set_option maxHeartbeats 1000000 in
theorem qfits_got (a b : Int) (la : ln a.natAbs ≤ 100000) (lb : ln b.natAbs ≤ 100000) (v0 : Value) (w : World) (h0 : (isL [zC a, zC b]).p v0 w) :
    Calls Try.prog 131 #[v0] w (Got w (isP (isL [zC (fitn a b), zC (fitd a b)]) (isV (.int .i64 (fitc a b)))).p) := by
  obtain ⟨u0, x0, y0, z0, rfl, p0, q0⟩ := isL_two.1 h0
  clear h0
  by_cases h : fitb a b = true
  · have hfb : fitb a b = true := h
    have e1 : fitn a b = a := if_pos hfb
    have e2 : fitd a b = b := if_pos hfb
    have e3 : fitc a b = 0 := if_pos hfb
    rw [e1, e2, e3]
    have HFB : Hd _ := ⟨fit_max a b⟩
    rw [hfb] at HFB
    clear e1 e2 e3 hfb h
    go_enter Try.func131, Try.ntmps131
    go_upto_region 1 with fail
    obtain ⟨W0, hW0⟩ : ∃ W : World, W = (w.alloc (.cells #[u0, x0, y0, z0] 103)).alloc (.cells #[Value.bool false, Value.slice none 0 0, Value.bool false, Value.slice none 0 0] 58) := ⟨_, rfl⟩
    rw [← hW0]
    obtain ⟨he, hb⟩ := env_two (cp2 p0 q0) (cp2 (cp0 _) (cp0 _)) hW0
    have HE := Hd.mk he
    have HB := Hd.mk hb
    clear he hb hW0
    refine wp_region_vd 10 [4, 5, 6, 7, 8, 9, 10, 11, 12, 13] [0, 1, 4, 5, 9] [] 70 [.bool false, .slice none 0 0] [isV (.pointer (some ⟨w.heap.size, 0, none⟩)), isV (.pointer (some ⟨w.heap.size, 1, none⟩)), isN a.natAbs, isV (.int .i64 (((ln a.natAbs : Nat) : Int))), isV (.pointer (some ⟨w.heap.size, 2, none⟩)), isV (.pointer (some ⟨w.heap.size, 3, none⟩)), isN b.natAbs, isV (.int .i64 (((ln b.natAbs : Nat) : Int))), isV (.int .i64 (if ((ln a.natAbs : Nat) : Int) < ((ln b.natAbs : Nat) : Int) then ((ln b.natAbs : Nat) : Int) else ((ln a.natAbs : Nat) : Int))), isV (.bool false)] (by rfl) alloc_whole ?_ ?_
    · intro i hi hA aa wx hb hs hd
      match i, hi, hA with
      | 0, _, _ => exact .inl ⟨rfl, ⟨_, op_faQ0 rfl (hs 1 rfl), rfl⟩⟩
      | 1, _, _ => exact .inl ⟨rfl, ⟨_, op_faW1 rfl (hd 0 rfl), rfl⟩⟩
      | 2, _, _ => exact .inl ⟨rfl, op_ldnn (off := 0) rfl rfl (hd 1 rfl) ((HE.out.to hb).get 0 rfl).a0⟩
      | 3, _, _ => exact .inl ⟨rfl, op_lenn rfl rfl (hd 2 rfl)⟩
      | 4, _, _ => exact .inl ⟨rfl, ⟨_, op_faQ1 rfl (hs 1 rfl), rfl⟩⟩
      | 5, _, _ => exact .inl ⟨rfl, ⟨_, op_faW1 rfl (hd 4 rfl), rfl⟩⟩
      | 6, _, _ => exact .inl ⟨rfl, op_ldnn (off := 2) rfl rfl (hd 5 rfl) ((HE.out.to hb).get 0 rfl).a2⟩
      | 7, _, _ => exact .inl ⟨rfl, op_lenn rfl rfl (hd 6 rfl)⟩
      | 8, _, _ => exact .inl ⟨rfl, op_max rfl rfl (hd 3 rfl) (hd 7 rfl)⟩
      | 9, _, _ => exact .inl ⟨rfl, pure_b HFB.out (⟨_, op_gtrc rfl (hd 8 rfl), rfl⟩)⟩
      | i + 10, h, _ => omega
    · intro vs X1 hb hv hal hne
      replace HB := Hd.mk (bel_then HB.out hb)
      replace HE : Hd (Env X1 [⟨w.heap.size, 103, [zC a, zC b]⟩, ⟨w.heap.size + 1, 58, [zC 0, zC 0]⟩]) := ⟨HE.out.to hb⟩
      have e13 : vs 13 = .bool false := hv 9 (by decide) rfl
      simp only [putAll, List.foldl_cons, List.foldl_nil, Act.put, List.setIfInBounds_toArray, List.set_cons_succ, List.set_cons_zero, List.drop_succ_cons, List.drop_zero, e13]
      generalize vs 4 = s4
      generalize vs 5 = s5
      generalize vs 6 = s6
      generalize vs 7 = s7
      generalize vs 8 = s8
      generalize vs 9 = s9
      generalize vs 10 = s10
      generalize vs 11 = s11
      generalize vs 12 = s12
      clear hv hal hne hb
      go_upto_region 3 with fail
      refine wp_region_vs 7 [15, 16, 17, 18, 19, 20, 21] [0, 3, 6] [] 70 [.bool false, .slice none 0 0] [isV (.pointer (some ⟨w.heap.size, 0, none⟩)), isZ a, isZ a, isV (.pointer (some ⟨w.heap.size, 2, none⟩)), isZ b, isZ b, isL [zC a, zC b]] (by kernel_rfl) (by kernel_rfl) (by kernel_rfl) (by rfl) alloc_whole (fun d v c a w h => by cases d <;> exact h) ?_ ?_
      · intro i hi hA aa wx hb hs hd
        match i, hi, hA with
        | 0, _, _ => exact ⟨_, op_faQ0 rfl (hs 1 rfl), rfl⟩
        | 1, _, _ => exact op_ldWz rfl rfl (hd 0 rfl) ((HE.out.to hb).get 0 rfl).a0
        | 2, _, _ => exact op_call1 rfl rfl Try.call72 (value_got a _ _ (hd 1 rfl) (by omega))
        | 3, _, _ => exact ⟨_, op_faQ1 rfl (hs 1 rfl), rfl⟩
        | 4, _, _ => exact op_ldWz rfl rfl (hd 3 rfl) ((HE.out.to hb).get 0 rfl).a2
        | 5, _, _ => exact op_call1 rfl rfl Try.call72 (value_got b _ _ (hd 4 rfl) (by omega))
        | 6, _, _ => exact op_bdR rfl (isL_isZ.2 (hd 2 rfl)) (isL_isZ.2 (hd 5 rfl))
        | i + 7, h, _ => omega
      · intro vs X2 hb hv hal hne
        replace HB := Hd.mk (bel_then HB.out hb)
        replace HE : Hd (Env X2 [⟨w.heap.size, 103, [zC a, zC b]⟩, ⟨w.heap.size + 1, 58, [zC 0, zC 0]⟩]) := ⟨HE.out.to hb⟩
        have t21 : (isL [zC a, zC b]).p (vs 21) X2 := hv 6 (by decide) rfl
        obtain ⟨u21, y21, p21, q21, e21, c21, k21⟩ := isL_two.1 t21
        simp only [putAll, List.foldl_cons, List.foldl_nil, Act.put, List.setIfInBounds_toArray, List.set_cons_succ, List.set_cons_zero, List.drop_succ_cons, List.drop_zero, e21]
        generalize vs 15 = s15
        generalize vs 16 = s16
        generalize vs 17 = s17
        generalize vs 18 = s18
        generalize vs 19 = s19
        generalize vs 20 = s20
        refine wpList_st rfl rfl rfl rfl rfl (sto_R c21 k21 (HE.out.get 1 rfl)) ?_
        have HE' : Env (putAt (putAt X2 (w.heap.size + 1) 0 u21 y21) (w.heap.size + 1) 2 p21 q21) [⟨w.heap.size, 103, [zC a, zC b]⟩, ⟨w.heap.size + 1, 58, [zC a, zC b]⟩] := HE.out.put4 1 rfl c21 k21
        have HB' := below_put4 (u := u21) (v := y21) (u' := p21) (v' := q21) HB.out (show w.heap.size ≤ w.heap.size + 1 from by omega)
        generalize putAt (putAt X2 (w.heap.size + 1) 0 u21 y21) (w.heap.size + 1) 2 p21 q21 = X3 at *
        replace HE := Hd.mk HE'
        replace HB := Hd.mk HB'
        clear HE' HB'
        clear hv hal hne hb
        go_wp2_with fail
        obtain ⟨r0a, r0b, r0c, r0d, k0a, k0b, k0c, k0d, h0a, h0b⟩ := (HE.out.get 1 rfl).cells2
        refine bodyPost_ret (v := .tuple #[.agg #[r0a, r0b, r0c, r0d], .int .i64 0]) (by simp [results, Try.results131, go_sem, k0a, k0b, k0c, k0d]) rfl ?_
        exact ⟨_, rfl, HB.out, _, _, rfl, isL_two.2 ⟨_, _, _, _, rfl, h0a, h0b⟩, rfl⟩
  · have hfb : fitb a b = false := by simpa using h
    have e1 : fitn a b = 0 := if_neg (by rw [hfb]; decide)
    have e2 : fitd a b = 0 := if_neg (by rw [hfb]; decide)
    have e3 : fitc a b = 5 := if_neg (by rw [hfb]; decide)
    rw [e1, e2, e3]
    have HFB : Hd _ := ⟨fit_max a b⟩
    rw [hfb] at HFB
    clear e1 e2 e3 hfb h
    go_enter Try.func131, Try.ntmps131
    go_upto_region 1 with fail
    obtain ⟨W0, hW0⟩ : ∃ W : World, W = (w.alloc (.cells #[u0, x0, y0, z0] 103)).alloc (.cells #[Value.bool false, Value.slice none 0 0, Value.bool false, Value.slice none 0 0] 58) := ⟨_, rfl⟩
    rw [← hW0]
    obtain ⟨he, hb⟩ := env_two (cp2 p0 q0) (cp2 (cp0 _) (cp0 _)) hW0
    have HE := Hd.mk he
    have HB := Hd.mk hb
    clear he hb hW0
    refine wp_region_vd 10 [4, 5, 6, 7, 8, 9, 10, 11, 12, 13] [0, 1, 4, 5, 9] [] 70 [.bool false, .slice none 0 0] [isV (.pointer (some ⟨w.heap.size, 0, none⟩)), isV (.pointer (some ⟨w.heap.size, 1, none⟩)), isN a.natAbs, isV (.int .i64 (((ln a.natAbs : Nat) : Int))), isV (.pointer (some ⟨w.heap.size, 2, none⟩)), isV (.pointer (some ⟨w.heap.size, 3, none⟩)), isN b.natAbs, isV (.int .i64 (((ln b.natAbs : Nat) : Int))), isV (.int .i64 (if ((ln a.natAbs : Nat) : Int) < ((ln b.natAbs : Nat) : Int) then ((ln b.natAbs : Nat) : Int) else ((ln a.natAbs : Nat) : Int))), isV (.bool true)] (by rfl) alloc_whole ?_ ?_
    · intro i hi hA aa wx hb hs hd
      match i, hi, hA with
      | 0, _, _ => exact .inl ⟨rfl, ⟨_, op_faQ0 rfl (hs 1 rfl), rfl⟩⟩
      | 1, _, _ => exact .inl ⟨rfl, ⟨_, op_faW1 rfl (hd 0 rfl), rfl⟩⟩
      | 2, _, _ => exact .inl ⟨rfl, op_ldnn (off := 0) rfl rfl (hd 1 rfl) ((HE.out.to hb).get 0 rfl).a0⟩
      | 3, _, _ => exact .inl ⟨rfl, op_lenn rfl rfl (hd 2 rfl)⟩
      | 4, _, _ => exact .inl ⟨rfl, ⟨_, op_faQ1 rfl (hs 1 rfl), rfl⟩⟩
      | 5, _, _ => exact .inl ⟨rfl, ⟨_, op_faW1 rfl (hd 4 rfl), rfl⟩⟩
      | 6, _, _ => exact .inl ⟨rfl, op_ldnn (off := 2) rfl rfl (hd 5 rfl) ((HE.out.to hb).get 0 rfl).a2⟩
      | 7, _, _ => exact .inl ⟨rfl, op_lenn rfl rfl (hd 6 rfl)⟩
      | 8, _, _ => exact .inl ⟨rfl, op_max rfl rfl (hd 3 rfl) (hd 7 rfl)⟩
      | 9, _, _ => exact .inl ⟨rfl, pure_b HFB.out (⟨_, op_gtrc rfl (hd 8 rfl), rfl⟩)⟩
      | i + 10, h, _ => omega
    · intro vs X1 hb hv hal hne
      replace HB := Hd.mk (bel_then HB.out hb)
      replace HE : Hd (Env X1 [⟨w.heap.size, 103, [zC a, zC b]⟩, ⟨w.heap.size + 1, 58, [zC 0, zC 0]⟩]) := ⟨HE.out.to hb⟩
      have e13 : vs 13 = .bool true := hv 9 (by decide) rfl
      simp only [putAll, List.foldl_cons, List.foldl_nil, Act.put, List.setIfInBounds_toArray, List.set_cons_succ, List.set_cons_zero, List.drop_succ_cons, List.drop_zero, e13]
      generalize vs 4 = s4
      generalize vs 5 = s5
      generalize vs 6 = s6
      generalize vs 7 = s7
      generalize vs 8 = s8
      generalize vs 9 = s9
      generalize vs 10 = s10
      generalize vs 11 = s11
      generalize vs 12 = s12
      clear hv hal hne hb
      go_upto_region 2 with fail
      refine wp_region_vd 1 [14] [0] [] 70 [.bool false, .slice none 0 0] [isL [zC 0, zC 0]] (by rfl) alloc_whole ?_ ?_
      · intro i hi hA aa wx hb hs hd
        match i, hi, hA with
        | 0, _, _ => exact .inl ⟨rfl, op_b0R rfl⟩
        | i + 1, h, _ => omega
      · intro vs X2 hb hv hal hne
        replace HB := Hd.mk (bel_then HB.out hb)
        replace HE : Hd (Env X2 [⟨w.heap.size, 103, [zC a, zC b]⟩, ⟨w.heap.size + 1, 58, [zC 0, zC 0]⟩]) := ⟨HE.out.to hb⟩
        have t14 : (isL [zC 0, zC 0]).p (vs 14) X2 := hv 0 (by decide) rfl
        obtain ⟨u14, y14, p14, q14, e14, c14, k14⟩ := isL_two.1 t14
        simp only [putAll, List.foldl_cons, List.foldl_nil, Act.put, List.setIfInBounds_toArray, List.set_cons_succ, List.set_cons_zero, List.drop_succ_cons, List.drop_zero, e14]
        refine wpList_st rfl rfl rfl rfl rfl (sto_R c14 k14 (HE.out.get 1 rfl)) ?_
        have HE' : Env (putAt (putAt X2 (w.heap.size + 1) 0 u14 y14) (w.heap.size + 1) 2 p14 q14) [⟨w.heap.size, 103, [zC a, zC b]⟩, ⟨w.heap.size + 1, 58, [zC 0, zC 0]⟩] := HE.out.put4 1 rfl c14 k14
        have HB' := below_put4 (u := u14) (v := y14) (u' := p14) (v' := q14) HB.out (show w.heap.size ≤ w.heap.size + 1 from by omega)
        generalize putAt (putAt X2 (w.heap.size + 1) 0 u14 y14) (w.heap.size + 1) 2 p14 q14 = X3 at *
        replace HE := Hd.mk HE'
        replace HB := Hd.mk HB'
        clear HE' HB'
        clear hv hal hne hb
        go_wp2_with fail
        obtain ⟨r0a, r0b, r0c, r0d, k0a, k0b, k0c, k0d, h0a, h0b⟩ := (HE.out.get 1 rfl).cells2
        refine bodyPost_ret (v := .tuple #[.agg #[r0a, r0b, r0c, r0d], .int .i64 5]) (by simp [results, Try.results131, go_sem, k0a, k0b, k0c, k0d]) rfl ?_
        exact ⟨_, rfl, HB.out, _, _, rfl, isL_two.2 ⟨_, _, _, _, rfl, h0a, h0b⟩, rfl⟩
set_option maxRecDepth 100000 in
set_option maxHeartbeats 1000000 in
theorem qzero_got (a b : Int) (la : ln a.natAbs ≤ 100000) (lb : ln b.natAbs ≤ 100000) (v0 : Value) (w : World) (h0 : (isL [zC a, zC b]).p v0 w) :
    Calls Try.prog 104 #[v0] w (Got w (isV (.bool (decide (a = 0)))).p) := by
  obtain ⟨u0, x0, y0, z0, rfl, p0, q0⟩ := isL_two.1 h0
  clear h0
  have HZE : Hd (decide (a.natAbs = 0) = decide (a = 0)) := ⟨decide_eq_decide.2 Int.natAbs_eq_zero⟩
  go_enter Try.func104, Try.ntmps104
  go_upto_region 1 with fail
  obtain ⟨W0, hW0⟩ : ∃ W : World, W = w.alloc (.cells #[u0, x0, y0, z0] 103) := ⟨_, rfl⟩
  rw [← hW0]
  obtain ⟨he, hb⟩ := env_one (cp2 p0 q0) hW0
  have HE := Hd.mk he
  have HB := Hd.mk hb
  clear he hb hW0
  refine wp_region_vd 4 [3, 4, 5, 6] [0, 1] [] 70 [.bool false, .slice none 0 0] [isV (.pointer (some ⟨w.heap.size, 0, none⟩)), isV (.pointer (some ⟨w.heap.size, 1, none⟩)), isN a.natAbs, isV (.bool (decide (a = 0)))] (by rfl) alloc_whole ?_ ?_
  · intro i hi hA aa wx hb hs hd
    match i, hi, hA with
    | 0, _, _ => exact .inl ⟨rfl, ⟨_, op_faQ0 rfl (hs 1 rfl), rfl⟩⟩
    | 1, _, _ => exact .inl ⟨rfl, ⟨_, op_faW1 rfl (hd 0 rfl), rfl⟩⟩
    | 2, _, _ => exact .inl ⟨rfl, op_ldnn (off := 0) rfl rfl (hd 1 rfl) ((HE.out.to hb).get 0 rfl).a0⟩
    | 3, _, _ => exact .inl ⟨rfl, op_call1 rfl rfl Try.call89 (got_b HZE.out (nzero_got a.natAbs _ _ (hd 2 rfl) (by omega)))⟩
    | i + 4, h, _ => omega
  · intro vs X1 hb hv hal hne
    replace HB := Hd.mk (bel_then HB.out hb)
    replace HE : Hd (Env X1 [⟨w.heap.size, 103, [zC a, zC b]⟩]) := ⟨HE.out.to hb⟩
    have e6 : vs 6 = .bool (decide (a = 0)) := hv 3 (by decide) rfl
    simp only [putAll, List.foldl_cons, List.foldl_nil, Act.put, List.setIfInBounds_toArray, List.set_cons_succ, List.set_cons_zero, List.drop_succ_cons, List.drop_zero, e6]
    generalize vs 3 = s3
    generalize vs 4 = s4
    generalize vs 5 = s5
    clear hv hal hne hb
    go_wp2_with fail
    go_ret
    exact ⟨_, rfl, HB.out, rfl⟩
set_option maxRecDepth 100000 in
set_option maxHeartbeats 1000000 in
theorem rRatio_got (n d : Int) (hd0 : d ≠ 0) (la : ln n.natAbs ≤ 100000) (lb : ln d.natAbs ≤ 100000) (v0 v1 : Value) (w : World) (h0 : (isL [zC n]).p v0 w) (h1 : (isL [zC d]).p v1 w) :
    Calls Try.prog 134 #[v0, v1] w (Got w (isL [zC (qn n d), zC (qd n d)]).p) := by
  obtain ⟨u0, x0, rfl, p0⟩ := isL_one.1 h0
  obtain ⟨u1, x1, rfl, p1⟩ := isL_one.1 h1
  clear h0 h1
  by_cases hneg : d < 0
  · have hg : zgcd (-n) (-d) ≠ 0 := by rw [zgcd_neg]; have := zgcd_pos (p := n) hd0; omega
    have HG := Hd.mk hg
    have lg : ln (zgcd (-n) (-d)).natAbs ≤ 100000 := Nat.le_trans (zgcd_ln _ _) (by rw [ln_zneg, ln_zneg]; omega)
    have la2 : ln (-n).natAbs ≤ 100000 := by rw [ln_zneg]; exact la
    have lb2 : ln (-d).natAbs ≤ 100000 := by rw [ln_zneg]; exact lb
    have HN : Hd (-n / zgcd (-n) (-d) = qn n d) := ⟨by unfold qn; rw [if_pos hneg, zgcd_neg]⟩
    have HD : Hd (-d / zgcd (-n) (-d) = qd n d) := ⟨by unfold qd; rw [zgcd_neg, show ((d.natAbs : Nat) : Int) = -d by omega]⟩
    have hdec : decide (d < 0) = true := decide_eq_true hneg
    clear hg hd0 hneg
    go_enter Try.func134, Try.ntmps134
    go_upto_region 1 with fail
    obtain ⟨W0, hW0⟩ : ∃ W : World, W = ((w.alloc (.cells #[u0, x0] 38)).alloc (.cells #[u1, x1] 38)).alloc (.cells #[Value.bool false, Value.slice none 0 0, Value.bool false, Value.slice none 0 0] 109) := ⟨_, rfl⟩
    rw [← hW0]
    obtain ⟨he, hb⟩ := env_three (cp1 p0) (cp1 p1) (cp2 (cp0 _) (cp0 _)) hW0
    have HE := Hd.mk he
    have HB := Hd.mk hb
    clear he hb hW0
    refine wp_region_vd 2 [6, 7] [0] [] 70 [.bool false, .slice none 0 0] [isV (.pointer (some ⟨w.heap.size + 1, 0, none⟩)), isV (.bool true)] (by rfl) alloc_whole ?_ ?_
    · intro i hi hA aa wx hb hs hd
      match i, hi, hA with
      | 0, _, _ => exact .inl ⟨rfl, ⟨_, op_faZ0 rfl (hs 3 rfl), rfl⟩⟩
      | 1, _, _ => exact .inl ⟨rfl, wp_b hdec (op_ldb rfl rfl (hd 0 rfl) ((HE.out.to hb).get 1 rfl).a0)⟩
      | i + 2, h, _ => omega
    · intro vs X1 hb hv hal hne
      replace HB := Hd.mk (bel_then HB.out hb)
      replace HE : Hd (Env X1 [⟨w.heap.size, 38, [zC n]⟩, ⟨w.heap.size + 1, 38, [zC d]⟩, ⟨w.heap.size + 1 + 1, 109, [zC 0, zC 0]⟩]) := ⟨HE.out.to hb⟩
      have e7 : vs 7 = .bool true := hv 1 (by decide) rfl
      simp only [putAll, List.foldl_cons, List.foldl_nil, Act.put, List.setIfInBounds_toArray, List.set_cons_succ, List.set_cons_zero, List.drop_succ_cons, List.drop_zero, e7]
      generalize vs 6 = s6
      clear hv hal hne hb
      go_upto_region 2 with fail
      refine wp_region_vs 4 [8, 9, 10, 11] [] [] 70 [.bool false, .slice none 0 0] [isZ n, isZ (-n), isZ d, isZ (-d)] (by kernel_rfl) (by kernel_rfl) (by kernel_rfl) (by rfl) alloc_whole (fun d v c a w h => by cases d <;> exact h) ?_ ?_
      · intro i hi hA aa wx hb hs hd
        match i, hi, hA with
        | 0, _, _ => exact op_ldZz rfl rfl (hs 2 rfl) ((HE.out.to hb).get 0 rfl).a0
        | 1, _, _ => exact op_call1 rfl rfl Try.call46 (rMinus_got n _ _ (hd 0 rfl))
        | 2, _, _ => exact op_ldZz rfl rfl (hs 3 rfl) ((HE.out.to hb).get 1 rfl).a0
        | 3, _, _ => exact op_call1 rfl rfl Try.call46 (rMinus_got d _ _ (hd 2 rfl))
        | i + 4, h, _ => omega
      · intro vs X2 hb hv hal hne
        replace HB := Hd.mk (bel_then HB.out hb)
        replace HE : Hd (Env X2 [⟨w.heap.size, 38, [zC n]⟩, ⟨w.heap.size + 1, 38, [zC d]⟩, ⟨w.heap.size + 1 + 1, 109, [zC 0, zC 0]⟩]) := ⟨HE.out.to hb⟩
        have t9 : (isZ (-n)).p (vs 9) X2 := hv 1 (by decide) rfl
        obtain ⟨u9, y9, e9, c9⟩ := isL_one.1 (isL_isZ.2 t9)
        have t11 : (isZ (-d)).p (vs 11) X2 := hv 3 (by decide) rfl
        obtain ⟨u11, y11, e11, c11⟩ := isL_one.1 (isL_isZ.2 t11)
        simp only [putAll, List.foldl_cons, List.foldl_nil, Act.put, List.setIfInBounds_toArray, List.set_cons_succ, List.set_cons_zero, List.drop_succ_cons, List.drop_zero, e9, e11]
        generalize vs 8 = s8
        generalize vs 10 = s10
        refine wpList_st rfl rfl rfl rfl rfl (sto_Z c9 (Slot.one _) (HE.out.get 0 rfl)) ?_
        have HE' : Env (putAt X2 w.heap.size 0 u9 y9) [⟨w.heap.size, 38, [zC (-n)]⟩, ⟨w.heap.size + 1, 38, [zC d]⟩, ⟨w.heap.size + 1 + 1, 109, [zC 0, zC 0]⟩] := HE.out.put1 0 rfl c9
        have HB' := below_putAt (o := 0) (u := u9) (v := y9) HB.out (show w.heap.size ≤ w.heap.size from by omega)
        replace c11 := cp_at c11 (u := u9) (v := y9) (Slot.one _) (HE.out.get 0 rfl)
        generalize putAt X2 w.heap.size 0 u9 y9 = X3 at *
        replace HE := Hd.mk HE'
        replace HB := Hd.mk HB'
        clear HE' HB'
        refine wpList_st rfl rfl rfl rfl rfl (sto_Z c11 (Slot.one _) (HE.out.get 1 rfl)) ?_
        have HE' : Env (putAt X3 (w.heap.size + 1) 0 u11 y11) [⟨w.heap.size, 38, [zC (-n)]⟩, ⟨w.heap.size + 1, 38, [zC (-d)]⟩, ⟨w.heap.size + 1 + 1, 109, [zC 0, zC 0]⟩] := HE.out.put1 1 rfl c11
        have HB' := below_putAt (o := 0) (u := u11) (v := y11) HB.out (show w.heap.size ≤ w.heap.size + 1 from by omega)
        generalize putAt X3 (w.heap.size + 1) 0 u11 y11 = X4 at *
        replace HE := Hd.mk HE'
        replace HB := Hd.mk HB'
        clear HE' HB'
        clear hv hal hne hb
        go_upto_region 3 with fail
        refine wp_region_vd 4 [12, 13, 14, 5] [] [3] 38 [.bool false, .slice none 0 0] [isZ (-n), isZ (-d), isZ (zgcd (-n) (-d)), SP.any] (by rfl) alloc_Z ?_ ?_
        · intro i hi hA aa wx hb hs hd
          match i, hi, hA with
          | 0, _, _ => exact .inl ⟨rfl, op_ldZz rfl rfl (hs 2 rfl) ((HE.out.to hb).get 0 rfl).a0⟩
          | 1, _, _ => exact .inl ⟨rfl, op_ldZz rfl rfl (hs 3 rfl) ((HE.out.to hb).get 1 rfl).a0⟩
          | 2, _, _ => exact .inl ⟨rfl, op_call2 rfl rfl Try.call96 (rCommon_got (-n) (-d) _ _ _ (hd 0 rfl) (hd 1 rfl) (by omega) (by omega))⟩
          | 3, _, h => cases h
          | i + 4, h, _ => omega
        · intro vs X5 hb hv hal hne
          have HL0 := Hd.mk (HE.out.lt)
          have HBW := HB
          replace HB := Hd.mk (bel_then HB.out hb)
          replace HE : Hd (Env X5 [⟨w.heap.size, 38, [zC (-n)]⟩, ⟨w.heap.size + 1, 38, [zC (-d)]⟩, ⟨w.heap.size + 1 + 1, 109, [zC 0, zC 0]⟩]) := ⟨HE.out.to hb⟩
          obtain ⟨g5, e5, l5, b5⟩ : ∃ g, vs 5 = .pointer (some ⟨g, 0, none⟩) ∧ _ := hal 3 rfl
          have t14 : (isZ (zgcd (-n) (-d))).p (vs 14) X5 := hv 2 (by decide) rfl
          obtain ⟨u14, y14, e14, c14⟩ := isL_one.1 (isL_isZ.2 t14)
          simp only [putAll, List.foldl_cons, List.foldl_nil, Act.put, List.setIfInBounds_toArray, List.set_cons_succ, List.set_cons_zero, List.drop_succ_cons, List.drop_zero, e5, e14]
          generalize vs 12 = s12
          generalize vs 13 = s13
          replace HE : Hd (Env X5 [⟨w.heap.size, 38, [zC (-n)]⟩, ⟨w.heap.size + 1, 38, [zC (-d)]⟩, ⟨w.heap.size + 1 + 1, 109, [zC 0, zC 0]⟩, ⟨g5, 38, [aC]⟩]) := ⟨Env.addne (e := ⟨g5, 38, [aC]⟩) HE.out ⟨_, b5, cp1 (cpz _)⟩ (fun e' he => Nat.ne_of_lt (Nat.lt_of_lt_of_le (HL0.out e' he) l5))⟩
          have G5 : Hd (w.heap.size ≤ g5) := ⟨Nat.le_trans HBW.out.size l5⟩
          clear l5 b5
          clear HL0 HBW e5
          refine wpList_st rfl rfl rfl rfl rfl (sto_Z c14 (Slot.one _) (HE.out.get 3 rfl)) ?_
          have HE' : Env (putAt X5 g5 0 u14 y14) [⟨w.heap.size, 38, [zC (-n)]⟩, ⟨w.heap.size + 1, 38, [zC (-d)]⟩, ⟨w.heap.size + 1 + 1, 109, [zC 0, zC 0]⟩, ⟨g5, 38, [zC (zgcd (-n) (-d))]⟩] := HE.out.put1 3 rfl c14
          have HB' := below_putAt (o := 0) (u := u14) (v := y14) HB.out (show w.heap.size ≤ g5 from G5.out)
          generalize putAt X5 g5 0 u14 y14 = X6 at *
          replace HE := Hd.mk HE'
          replace HB := Hd.mk HB'
          clear HE' HB'
          clear hv hal hne hb
          go_upto_region 4 with fail
          refine wp_region_vs 7 [15, 16, 17, 18, 19, 20, 21] [6] [] 70 [.bool false, .slice none 0 0] [isZ (-n), isZ (zgcd (-n) (-d)), isZ ((-n) / (zgcd (-n) (-d))), isZ (-d), isZ (zgcd (-n) (-d)), isZ ((-d) / (zgcd (-n) (-d))), isL [zC ((-n) / (zgcd (-n) (-d))), zC ((-d) / (zgcd (-n) (-d)))]] (by kernel_rfl) (by kernel_rfl) (by kernel_rfl) (by rfl) alloc_whole (fun d v c a w h => by cases d <;> exact h) ?_ ?_
          · intro i hi hA aa wx hb hs hd
            match i, hi, hA with
            | 0, _, _ => exact op_ldZz rfl rfl (hs 2 rfl) ((HE.out.to hb).get 0 rfl).a0
            | 1, _, _ => exact op_ldZz rfl rfl (hs 5 rfl) ((HE.out.to hb).get 3 rfl).a0
            | 2, _, _ => exact op_call2 rfl rfl Try.call97 (rExactly_got (-n) (zgcd (-n) (-d)) HG.out _ _ _ (hd 0 rfl) (hd 1 rfl) (by omega) (by omega))
            | 3, _, _ => exact op_ldZz rfl rfl (hs 3 rfl) ((HE.out.to hb).get 1 rfl).a0
            | 4, _, _ => exact op_ldZz rfl rfl (hs 5 rfl) ((HE.out.to hb).get 3 rfl).a0
            | 5, _, _ => exact op_call2 rfl rfl Try.call97 (rExactly_got (-d) (zgcd (-n) (-d)) HG.out _ _ _ (hd 3 rfl) (hd 4 rfl) (by omega) (by omega))
            | 6, _, _ => exact op_bdS rfl (isL_isZ.2 (hd 2 rfl)) (isL_isZ.2 (hd 5 rfl))
            | i + 7, h, _ => omega
          · intro vs X7 hb hv hal hne
            replace HB := Hd.mk (bel_then HB.out hb)
            replace HE : Hd (Env X7 [⟨w.heap.size, 38, [zC (-n)]⟩, ⟨w.heap.size + 1, 38, [zC (-d)]⟩, ⟨w.heap.size + 1 + 1, 109, [zC 0, zC 0]⟩, ⟨g5, 38, [zC (zgcd (-n) (-d))]⟩]) := ⟨HE.out.to hb⟩
            have t21 : (isL [zC ((-n) / (zgcd (-n) (-d))), zC ((-d) / (zgcd (-n) (-d)))]).p (vs 21) X7 := hv 6 (by decide) rfl
            obtain ⟨u21, y21, p21, q21, e21, c21, k21⟩ := isL_two.1 t21
            simp only [putAll, List.foldl_cons, List.foldl_nil, Act.put, List.setIfInBounds_toArray, List.set_cons_succ, List.set_cons_zero, List.drop_succ_cons, List.drop_zero, e21]
            generalize vs 15 = s15
            generalize vs 16 = s16
            generalize vs 17 = s17
            generalize vs 18 = s18
            generalize vs 19 = s19
            generalize vs 20 = s20
            refine wpList_st rfl rfl rfl rfl rfl (sto_S c21 k21 (HE.out.get 2 rfl)) ?_
            have HE' : Env (putAt (putAt X7 (w.heap.size + 1 + 1) 0 u21 y21) (w.heap.size + 1 + 1) 2 p21 q21) [⟨w.heap.size, 38, [zC (-n)]⟩, ⟨w.heap.size + 1, 38, [zC (-d)]⟩, ⟨w.heap.size + 1 + 1, 109, [zC ((-n) / (zgcd (-n) (-d))), zC ((-d) / (zgcd (-n) (-d)))]⟩, ⟨g5, 38, [zC (zgcd (-n) (-d))]⟩] := HE.out.put4 2 rfl c21 k21
            have HB' := below_put4 (u := u21) (v := y21) (u' := p21) (v' := q21) HB.out (show w.heap.size ≤ w.heap.size + 1 + 1 from by omega)
            generalize putAt (putAt X7 (w.heap.size + 1 + 1) 0 u21 y21) (w.heap.size + 1 + 1) 2 p21 q21 = X8 at *
            replace HE := Hd.mk HE'
            replace HB := Hd.mk HB'
            clear HE' HB'
            clear hv hal hne hb
            have HE' := HE.out
            rw [HN.out, HD.out] at HE'
            replace HE := Hd.mk HE'
            clear HE'
            go_wp2_with fail
            obtain ⟨r0a, r0b, r0c, r0d, k0a, k0b, k0c, k0d, h0a, h0b⟩ := (HE.out.get 2 rfl).cells2
            refine bodyPost_ret (v := .agg #[r0a, r0b, r0c, r0d]) (by simp [results, Try.results134, go_sem, k0a, k0b, k0c, k0d]) rfl ?_
            exact ⟨_, rfl, HB.out, isL_two.2 ⟨_, _, _, _, rfl, h0a, h0b⟩⟩
  · have hg : zgcd n d ≠ 0 := by have := zgcd_pos (p := n) hd0; omega
    have HG := Hd.mk hg
    have lg : ln (zgcd n d).natAbs ≤ 100000 := Nat.le_trans (zgcd_ln _ _) (by omega)
    have HN : Hd (n / zgcd n d = qn n d) := ⟨by unfold qn; rw [if_neg hneg]⟩
    have HD : Hd (d / zgcd n d = qd n d) := ⟨by unfold qd; rw [show ((d.natAbs : Nat) : Int) = d by omega]⟩
    have hdec : decide (d < 0) = false := decide_eq_false hneg
    clear hg hd0 hneg
    go_enter Try.func134, Try.ntmps134
    go_upto_region 1 with fail
    obtain ⟨W0, hW0⟩ : ∃ W : World, W = ((w.alloc (.cells #[u0, x0] 38)).alloc (.cells #[u1, x1] 38)).alloc (.cells #[Value.bool false, Value.slice none 0 0, Value.bool false, Value.slice none 0 0] 109) := ⟨_, rfl⟩
    rw [← hW0]
    obtain ⟨he, hb⟩ := env_three (cp1 p0) (cp1 p1) (cp2 (cp0 _) (cp0 _)) hW0
    have HE := Hd.mk he
    have HB := Hd.mk hb
    clear he hb hW0
    refine wp_region_vd 2 [6, 7] [0] [] 70 [.bool false, .slice none 0 0] [isV (.pointer (some ⟨w.heap.size + 1, 0, none⟩)), isV (.bool false)] (by rfl) alloc_whole ?_ ?_
    · intro i hi hA aa wx hb hs hd
      match i, hi, hA with
      | 0, _, _ => exact .inl ⟨rfl, ⟨_, op_faZ0 rfl (hs 3 rfl), rfl⟩⟩
      | 1, _, _ => exact .inl ⟨rfl, wp_b hdec (op_ldb rfl rfl (hd 0 rfl) ((HE.out.to hb).get 1 rfl).a0)⟩
      | i + 2, h, _ => omega
    · intro vs X1 hb hv hal hne
      replace HB := Hd.mk (bel_then HB.out hb)
      replace HE : Hd (Env X1 [⟨w.heap.size, 38, [zC n]⟩, ⟨w.heap.size + 1, 38, [zC d]⟩, ⟨w.heap.size + 1 + 1, 109, [zC 0, zC 0]⟩]) := ⟨HE.out.to hb⟩
      have e7 : vs 7 = .bool false := hv 1 (by decide) rfl
      simp only [putAll, List.foldl_cons, List.foldl_nil, Act.put, List.setIfInBounds_toArray, List.set_cons_succ, List.set_cons_zero, List.drop_succ_cons, List.drop_zero, e7]
      generalize vs 6 = s6
      clear hv hal hne hb
      go_upto_region 3 with fail
      refine wp_region_vd 4 [12, 13, 14, 5] [] [3] 38 [.bool false, .slice none 0 0] [isZ n, isZ d, isZ (zgcd n d), SP.any] (by rfl) alloc_Z ?_ ?_
      · intro i hi hA aa wx hb hs hd
        match i, hi, hA with
        | 0, _, _ => exact .inl ⟨rfl, op_ldZz rfl rfl (hs 2 rfl) ((HE.out.to hb).get 0 rfl).a0⟩
        | 1, _, _ => exact .inl ⟨rfl, op_ldZz rfl rfl (hs 3 rfl) ((HE.out.to hb).get 1 rfl).a0⟩
        | 2, _, _ => exact .inl ⟨rfl, op_call2 rfl rfl Try.call96 (rCommon_got n d _ _ _ (hd 0 rfl) (hd 1 rfl) (by omega) (by omega))⟩
        | 3, _, h => cases h
        | i + 4, h, _ => omega
      · intro vs X2 hb hv hal hne
        have HL0 := Hd.mk (HE.out.lt)
        have HBW := HB
        replace HB := Hd.mk (bel_then HB.out hb)
        replace HE : Hd (Env X2 [⟨w.heap.size, 38, [zC n]⟩, ⟨w.heap.size + 1, 38, [zC d]⟩, ⟨w.heap.size + 1 + 1, 109, [zC 0, zC 0]⟩]) := ⟨HE.out.to hb⟩
        obtain ⟨g5, e5, l5, b5⟩ : ∃ g, vs 5 = .pointer (some ⟨g, 0, none⟩) ∧ _ := hal 3 rfl
        have t14 : (isZ (zgcd n d)).p (vs 14) X2 := hv 2 (by decide) rfl
        obtain ⟨u14, y14, e14, c14⟩ := isL_one.1 (isL_isZ.2 t14)
        simp only [putAll, List.foldl_cons, List.foldl_nil, Act.put, List.setIfInBounds_toArray, List.set_cons_succ, List.set_cons_zero, List.drop_succ_cons, List.drop_zero, e5, e14]
        generalize vs 12 = s12
        generalize vs 13 = s13
        replace HE : Hd (Env X2 [⟨w.heap.size, 38, [zC n]⟩, ⟨w.heap.size + 1, 38, [zC d]⟩, ⟨w.heap.size + 1 + 1, 109, [zC 0, zC 0]⟩, ⟨g5, 38, [aC]⟩]) := ⟨Env.addne (e := ⟨g5, 38, [aC]⟩) HE.out ⟨_, b5, cp1 (cpz _)⟩ (fun e' he => Nat.ne_of_lt (Nat.lt_of_lt_of_le (HL0.out e' he) l5))⟩
        have G5 : Hd (w.heap.size ≤ g5) := ⟨Nat.le_trans HBW.out.size l5⟩
        clear l5 b5
        clear HL0 HBW e5
        refine wpList_st rfl rfl rfl rfl rfl (sto_Z c14 (Slot.one _) (HE.out.get 3 rfl)) ?_
        have HE' : Env (putAt X2 g5 0 u14 y14) [⟨w.heap.size, 38, [zC n]⟩, ⟨w.heap.size + 1, 38, [zC d]⟩, ⟨w.heap.size + 1 + 1, 109, [zC 0, zC 0]⟩, ⟨g5, 38, [zC (zgcd n d)]⟩] := HE.out.put1 3 rfl c14
        have HB' := below_putAt (o := 0) (u := u14) (v := y14) HB.out (show w.heap.size ≤ g5 from G5.out)
        generalize putAt X2 g5 0 u14 y14 = X3 at *
        replace HE := Hd.mk HE'
        replace HB := Hd.mk HB'
        clear HE' HB'
        clear hv hal hne hb
        go_upto_region 4 with fail
        refine wp_region_vs 7 [15, 16, 17, 18, 19, 20, 21] [6] [] 70 [.bool false, .slice none 0 0] [isZ n, isZ (zgcd n d), isZ (n / (zgcd n d)), isZ d, isZ (zgcd n d), isZ (d / (zgcd n d)), isL [zC (n / (zgcd n d)), zC (d / (zgcd n d))]] (by kernel_rfl) (by kernel_rfl) (by kernel_rfl) (by rfl) alloc_whole (fun d v c a w h => by cases d <;> exact h) ?_ ?_
        · intro i hi hA aa wx hb hs hd
          match i, hi, hA with
          | 0, _, _ => exact op_ldZz rfl rfl (hs 2 rfl) ((HE.out.to hb).get 0 rfl).a0
          | 1, _, _ => exact op_ldZz rfl rfl (hs 5 rfl) ((HE.out.to hb).get 3 rfl).a0
          | 2, _, _ => exact op_call2 rfl rfl Try.call97 (rExactly_got n (zgcd n d) HG.out _ _ _ (hd 0 rfl) (hd 1 rfl) (by omega) (by omega))
          | 3, _, _ => exact op_ldZz rfl rfl (hs 3 rfl) ((HE.out.to hb).get 1 rfl).a0
          | 4, _, _ => exact op_ldZz rfl rfl (hs 5 rfl) ((HE.out.to hb).get 3 rfl).a0
          | 5, _, _ => exact op_call2 rfl rfl Try.call97 (rExactly_got d (zgcd n d) HG.out _ _ _ (hd 3 rfl) (hd 4 rfl) (by omega) (by omega))
          | 6, _, _ => exact op_bdS rfl (isL_isZ.2 (hd 2 rfl)) (isL_isZ.2 (hd 5 rfl))
          | i + 7, h, _ => omega
        · intro vs X4 hb hv hal hne
          replace HB := Hd.mk (bel_then HB.out hb)
          replace HE : Hd (Env X4 [⟨w.heap.size, 38, [zC n]⟩, ⟨w.heap.size + 1, 38, [zC d]⟩, ⟨w.heap.size + 1 + 1, 109, [zC 0, zC 0]⟩, ⟨g5, 38, [zC (zgcd n d)]⟩]) := ⟨HE.out.to hb⟩
          have t21 : (isL [zC (n / (zgcd n d)), zC (d / (zgcd n d))]).p (vs 21) X4 := hv 6 (by decide) rfl
          obtain ⟨u21, y21, p21, q21, e21, c21, k21⟩ := isL_two.1 t21
          simp only [putAll, List.foldl_cons, List.foldl_nil, Act.put, List.setIfInBounds_toArray, List.set_cons_succ, List.set_cons_zero, List.drop_succ_cons, List.drop_zero, e21]
          generalize vs 15 = s15
          generalize vs 16 = s16
          generalize vs 17 = s17
          generalize vs 18 = s18
          generalize vs 19 = s19
          generalize vs 20 = s20
          refine wpList_st rfl rfl rfl rfl rfl (sto_S c21 k21 (HE.out.get 2 rfl)) ?_
          have HE' : Env (putAt (putAt X4 (w.heap.size + 1 + 1) 0 u21 y21) (w.heap.size + 1 + 1) 2 p21 q21) [⟨w.heap.size, 38, [zC n]⟩, ⟨w.heap.size + 1, 38, [zC d]⟩, ⟨w.heap.size + 1 + 1, 109, [zC (n / (zgcd n d)), zC (d / (zgcd n d))]⟩, ⟨g5, 38, [zC (zgcd n d)]⟩] := HE.out.put4 2 rfl c21 k21
          have HB' := below_put4 (u := u21) (v := y21) (u' := p21) (v' := q21) HB.out (show w.heap.size ≤ w.heap.size + 1 + 1 from by omega)
          generalize putAt (putAt X4 (w.heap.size + 1 + 1) 0 u21 y21) (w.heap.size + 1 + 1) 2 p21 q21 = X5 at *
          replace HE := Hd.mk HE'
          replace HB := Hd.mk HB'
          clear HE' HB'
          clear hv hal hne hb
          have HE' := HE.out
          rw [HN.out, HD.out] at HE'
          replace HE := Hd.mk HE'
          clear HE'
          go_wp2_with fail
          obtain ⟨r0a, r0b, r0c, r0d, k0a, k0b, k0c, k0d, h0a, h0b⟩ := (HE.out.get 2 rfl).cells2
          refine bodyPost_ret (v := .agg #[r0a, r0b, r0c, r0d]) (by simp [results, Try.results134, go_sem, k0a, k0b, k0c, k0d]) rfl ?_
          exact ⟨_, rfl, HB.out, isL_two.2 ⟨_, _, _, _, rfl, h0a, h0b⟩⟩
set_option maxRecDepth 100000 in
set_option maxHeartbeats 1000000 in
theorem rTimesQ_got (a b c d : Int) (hb0 : b ≠ 0) (hd0 : d ≠ 0) (la : ln a.natAbs ≤ 1000) (lb : ln b.natAbs ≤ 1000) (lc : ln c.natAbs ≤ 1000) (ld : ln d.natAbs ≤ 1000) (v0 v1 : Value) (w : World) (h0 : (isL [zC a, zC b]).p v0 w) (h1 : (isL [zC c, zC d]).p v1 w) :
    Calls Try.prog 113 #[v0, v1] w (Got w (isL [zC (qn (a * c) (b * d)), zC (qd (a * c) (b * d))]).p) := by
  obtain ⟨u0, x0, y0, z0, rfl, p0, q0⟩ := isL_two.1 h0
  obtain ⟨u1, x1, y1, z1, rfl, p1, q1⟩ := isL_two.1 h1
  clear h0 h1
  have bac : ln (a * c).natAbs ≤ 2000 := Nat.le_trans (ln_zmul a c) (by omega)
  have bbd : ln (b * d).natAbs ≤ 2000 := Nat.le_trans (ln_zmul b d) (by omega)
  have HD0 := Hd.mk (Int.mul_ne_zero hb0 hd0)
  clear hb0 hd0
  go_enter Try.func113, Try.ntmps113
  go_upto_region 1 with fail
  obtain ⟨W0, hW0⟩ : ∃ W : World, W = ((w.alloc (.cells #[u0, x0, y0, z0] 109)).alloc (.cells #[u1, x1, y1, z1] 109)).alloc (.cells #[Value.bool false, Value.slice none 0 0, Value.bool false, Value.slice none 0 0] 109) := ⟨_, rfl⟩
  rw [← hW0]
  obtain ⟨he, hb⟩ := env_three (cp2 p0 q0) (cp2 p1 q1) (cp2 (cp0 _) (cp0 _)) hW0
  have HE := Hd.mk he
  have HB := Hd.mk hb
  clear he hb hW0
  refine wp_region_vs 11 [5, 6, 7, 8, 9, 10, 11, 12, 13, 14, 15] [0, 2, 5, 7] [] 70 [.bool false, .slice none 0 0] [isV (.pointer (some ⟨w.heap.size, 0, none⟩)), isZ a, isV (.pointer (some ⟨w.heap.size + 1, 0, none⟩)), isZ c, isZ (a * c), isV (.pointer (some ⟨w.heap.size, 2, none⟩)), isZ b, isV (.pointer (some ⟨w.heap.size + 1, 2, none⟩)), isZ d, isZ (b * d), isL [zC (qn (a * c) (b * d)), zC (qd (a * c) (b * d))]] (by kernel_rfl) (by kernel_rfl) (by kernel_rfl) (by rfl) alloc_whole (fun d v c a w h => by cases d <;> exact h) ?_ ?_
  · intro i hi hA aa wx hb hs hd
    match i, hi, hA with
    | 0, _, _ => exact ⟨_, op_faS0 rfl (hs 2 rfl), rfl⟩
    | 1, _, _ => exact op_ldZz rfl rfl (hd 0 rfl) ((HE.out.to hb).get 0 rfl).a0
    | 2, _, _ => exact ⟨_, op_faS0 rfl (hs 3 rfl), rfl⟩
    | 3, _, _ => exact op_ldZz rfl rfl (hd 2 rfl) ((HE.out.to hb).get 1 rfl).a0
    | 4, _, _ => exact op_call2 rfl rfl Try.call31 (rTimes_got a c _ _ _ (hd 1 rfl) (hd 3 rfl) (by omega) (by omega))
    | 5, _, _ => exact ⟨_, op_faS1 rfl (hs 2 rfl), rfl⟩
    | 6, _, _ => exact op_ldZz rfl rfl (hd 5 rfl) ((HE.out.to hb).get 0 rfl).a2
    | 7, _, _ => exact ⟨_, op_faS1 rfl (hs 3 rfl), rfl⟩
    | 8, _, _ => exact op_ldZz rfl rfl (hd 7 rfl) ((HE.out.to hb).get 1 rfl).a2
    | 9, _, _ => exact op_call2 rfl rfl Try.call31 (rTimes_got b d _ _ _ (hd 6 rfl) (hd 8 rfl) (by omega) (by omega))
    | 10, _, _ => exact op_call2 rfl rfl Try.call134 (rRatio_got (a * c) (b * d) HD0.out (by omega) (by omega) _ _ _ (isL_isZ.2 (hd 4 rfl)) (isL_isZ.2 (hd 9 rfl)))
    | i + 11, h, _ => omega
  · intro vs X1 hb hv hal hne
    replace HB := Hd.mk (bel_then HB.out hb)
    replace HE : Hd (Env X1 [⟨w.heap.size, 109, [zC a, zC b]⟩, ⟨w.heap.size + 1, 109, [zC c, zC d]⟩, ⟨w.heap.size + 1 + 1, 109, [zC 0, zC 0]⟩]) := ⟨HE.out.to hb⟩
    have t15 : (isL [zC (qn (a * c) (b * d)), zC (qd (a * c) (b * d))]).p (vs 15) X1 := hv 10 (by decide) rfl
    obtain ⟨u15, y15, p15, q15, e15, c15, k15⟩ := isL_two.1 t15
    simp only [putAll, List.foldl_cons, List.foldl_nil, Act.put, List.setIfInBounds_toArray, List.set_cons_succ, List.set_cons_zero, List.drop_succ_cons, List.drop_zero, e15]
    generalize vs 5 = s5
    generalize vs 6 = s6
    generalize vs 7 = s7
    generalize vs 8 = s8
    generalize vs 9 = s9
    generalize vs 10 = s10
    generalize vs 11 = s11
    generalize vs 12 = s12
    generalize vs 13 = s13
    generalize vs 14 = s14
    refine wpList_st rfl rfl rfl rfl rfl (sto_S c15 k15 (HE.out.get 2 rfl)) ?_
    have HE' : Env (putAt (putAt X1 (w.heap.size + 1 + 1) 0 u15 y15) (w.heap.size + 1 + 1) 2 p15 q15) [⟨w.heap.size, 109, [zC a, zC b]⟩, ⟨w.heap.size + 1, 109, [zC c, zC d]⟩, ⟨w.heap.size + 1 + 1, 109, [zC (qn (a * c) (b * d)), zC (qd (a * c) (b * d))]⟩] := HE.out.put4 2 rfl c15 k15
    have HB' := below_put4 (u := u15) (v := y15) (u' := p15) (v' := q15) HB.out (show w.heap.size ≤ w.heap.size + 1 + 1 from by omega)
    generalize putAt (putAt X1 (w.heap.size + 1 + 1) 0 u15 y15) (w.heap.size + 1 + 1) 2 p15 q15 = X2 at *
    replace HE := Hd.mk HE'
    replace HB := Hd.mk HB'
    clear HE' HB'
    clear hv hal hne hb
    go_wp2_with fail
    obtain ⟨r0a, r0b, r0c, r0d, k0a, k0b, k0c, k0d, h0a, h0b⟩ := (HE.out.get 2 rfl).cells2
    refine bodyPost_ret (v := .agg #[r0a, r0b, r0c, r0d]) (by simp [results, Try.results113, go_sem, k0a, k0b, k0c, k0d]) rfl ?_
    exact ⟨_, rfl, HB.out, isL_two.2 ⟨_, _, _, _, rfl, h0a, h0b⟩⟩
set_option maxRecDepth 100000 in
set_option maxHeartbeats 1000000 in
theorem rOverQ_got (a b c d : Int) (hb0 : b ≠ 0) (hc0 : c ≠ 0) (la : ln a.natAbs ≤ 1000) (lb : ln b.natAbs ≤ 1000) (lc : ln c.natAbs ≤ 1000) (ld : ln d.natAbs ≤ 1000) (v0 v1 : Value) (w : World) (h0 : (isL [zC a, zC b]).p v0 w) (h1 : (isL [zC c, zC d]).p v1 w) :
    Calls Try.prog 114 #[v0, v1] w (Got w (isL [zC (qn (a * d) (b * c)), zC (qd (a * d) (b * c))]).p) := by
  obtain ⟨u0, x0, y0, z0, rfl, p0, q0⟩ := isL_two.1 h0
  obtain ⟨u1, x1, y1, z1, rfl, p1, q1⟩ := isL_two.1 h1
  clear h0 h1
  have bad : ln (a * d).natAbs ≤ 2000 := Nat.le_trans (ln_zmul a d) (by omega)
  have bbc : ln (b * c).natAbs ≤ 2000 := Nat.le_trans (ln_zmul b c) (by omega)
  have HD0 := Hd.mk (Int.mul_ne_zero hb0 hc0)
  clear hb0 hc0
  go_enter Try.func114, Try.ntmps114
  go_upto_region 1 with fail
  obtain ⟨W0, hW0⟩ : ∃ W : World, W = ((w.alloc (.cells #[u0, x0, y0, z0] 109)).alloc (.cells #[u1, x1, y1, z1] 109)).alloc (.cells #[Value.bool false, Value.slice none 0 0, Value.bool false, Value.slice none 0 0] 109) := ⟨_, rfl⟩
  rw [← hW0]
  obtain ⟨he, hb⟩ := env_three (cp2 p0 q0) (cp2 p1 q1) (cp2 (cp0 _) (cp0 _)) hW0
  have HE := Hd.mk he
  have HB := Hd.mk hb
  clear he hb hW0
  refine wp_region_vs 11 [5, 6, 7, 8, 9, 10, 11, 12, 13, 14, 15] [0, 2, 5, 7] [] 70 [.bool false, .slice none 0 0] [isV (.pointer (some ⟨w.heap.size, 0, none⟩)), isZ a, isV (.pointer (some ⟨w.heap.size + 1, 2, none⟩)), isZ d, isZ (a * d), isV (.pointer (some ⟨w.heap.size, 2, none⟩)), isZ b, isV (.pointer (some ⟨w.heap.size + 1, 0, none⟩)), isZ c, isZ (b * c), isL [zC (qn (a * d) (b * c)), zC (qd (a * d) (b * c))]] (by kernel_rfl) (by kernel_rfl) (by kernel_rfl) (by rfl) alloc_whole (fun d v c a w h => by cases d <;> exact h) ?_ ?_
  · intro i hi hA aa wx hb hs hd
    match i, hi, hA with
    | 0, _, _ => exact ⟨_, op_faS0 rfl (hs 2 rfl), rfl⟩
    | 1, _, _ => exact op_ldZz rfl rfl (hd 0 rfl) ((HE.out.to hb).get 0 rfl).a0
    | 2, _, _ => exact ⟨_, op_faS1 rfl (hs 3 rfl), rfl⟩
    | 3, _, _ => exact op_ldZz rfl rfl (hd 2 rfl) ((HE.out.to hb).get 1 rfl).a2
    | 4, _, _ => exact op_call2 rfl rfl Try.call31 (rTimes_got a d _ _ _ (hd 1 rfl) (hd 3 rfl) (by omega) (by omega))
    | 5, _, _ => exact ⟨_, op_faS1 rfl (hs 2 rfl), rfl⟩
    | 6, _, _ => exact op_ldZz rfl rfl (hd 5 rfl) ((HE.out.to hb).get 0 rfl).a2
    | 7, _, _ => exact ⟨_, op_faS0 rfl (hs 3 rfl), rfl⟩
    | 8, _, _ => exact op_ldZz rfl rfl (hd 7 rfl) ((HE.out.to hb).get 1 rfl).a0
    | 9, _, _ => exact op_call2 rfl rfl Try.call31 (rTimes_got b c _ _ _ (hd 6 rfl) (hd 8 rfl) (by omega) (by omega))
    | 10, _, _ => exact op_call2 rfl rfl Try.call134 (rRatio_got (a * d) (b * c) HD0.out (by omega) (by omega) _ _ _ (isL_isZ.2 (hd 4 rfl)) (isL_isZ.2 (hd 9 rfl)))
    | i + 11, h, _ => omega
  · intro vs X1 hb hv hal hne
    replace HB := Hd.mk (bel_then HB.out hb)
    replace HE : Hd (Env X1 [⟨w.heap.size, 109, [zC a, zC b]⟩, ⟨w.heap.size + 1, 109, [zC c, zC d]⟩, ⟨w.heap.size + 1 + 1, 109, [zC 0, zC 0]⟩]) := ⟨HE.out.to hb⟩
    have t15 : (isL [zC (qn (a * d) (b * c)), zC (qd (a * d) (b * c))]).p (vs 15) X1 := hv 10 (by decide) rfl
    obtain ⟨u15, y15, p15, q15, e15, c15, k15⟩ := isL_two.1 t15
    simp only [putAll, List.foldl_cons, List.foldl_nil, Act.put, List.setIfInBounds_toArray, List.set_cons_succ, List.set_cons_zero, List.drop_succ_cons, List.drop_zero, e15]
    generalize vs 5 = s5
    generalize vs 6 = s6
    generalize vs 7 = s7
    generalize vs 8 = s8
    generalize vs 9 = s9
    generalize vs 10 = s10
    generalize vs 11 = s11
    generalize vs 12 = s12
    generalize vs 13 = s13
    generalize vs 14 = s14
    refine wpList_st rfl rfl rfl rfl rfl (sto_S c15 k15 (HE.out.get 2 rfl)) ?_
    have HE' : Env (putAt (putAt X1 (w.heap.size + 1 + 1) 0 u15 y15) (w.heap.size + 1 + 1) 2 p15 q15) [⟨w.heap.size, 109, [zC a, zC b]⟩, ⟨w.heap.size + 1, 109, [zC c, zC d]⟩, ⟨w.heap.size + 1 + 1, 109, [zC (qn (a * d) (b * c)), zC (qd (a * d) (b * c))]⟩] := HE.out.put4 2 rfl c15 k15
    have HB' := below_put4 (u := u15) (v := y15) (u' := p15) (v' := q15) HB.out (show w.heap.size ≤ w.heap.size + 1 + 1 from by omega)
    generalize putAt (putAt X1 (w.heap.size + 1 + 1) 0 u15 y15) (w.heap.size + 1 + 1) 2 p15 q15 = X2 at *
    replace HE := Hd.mk HE'
    replace HB := Hd.mk HB'
    clear HE' HB'
    clear hv hal hne hb
    go_wp2_with fail
    obtain ⟨r0a, r0b, r0c, r0d, k0a, k0b, k0c, k0d, h0a, h0b⟩ := (HE.out.get 2 rfl).cells2
    refine bodyPost_ret (v := .agg #[r0a, r0b, r0c, r0d]) (by simp [results, Try.results114, go_sem, k0a, k0b, k0c, k0d]) rfl ?_
    exact ⟨_, rfl, HB.out, isL_two.2 ⟨_, _, _, _, rfl, h0a, h0b⟩⟩
set_option maxRecDepth 100000 in
set_option maxHeartbeats 1000000 in
theorem rPlusQ_got (a b c d : Int) (hb0 : b ≠ 0) (hd0 : d ≠ 0) (la : ln a.natAbs ≤ 1000) (lb : ln b.natAbs ≤ 1000) (lc : ln c.natAbs ≤ 1000) (ld : ln d.natAbs ≤ 1000) (v0 v1 : Value) (w : World) (h0 : (isL [zC a, zC b]).p v0 w) (h1 : (isL [zC c, zC d]).p v1 w) :
    Calls Try.prog 111 #[v0, v1] w (Got w (isL [zC (qn (a * d + c * b) (b * d)), zC (qd (a * d + c * b) (b * d))]).p) := by
  obtain ⟨u0, x0, y0, z0, rfl, p0, q0⟩ := isL_two.1 h0
  obtain ⟨u1, x1, y1, z1, rfl, p1, q1⟩ := isL_two.1 h1
  clear h0 h1
  have bad : ln (a * d).natAbs ≤ 2000 := Nat.le_trans (ln_zmul a d) (by omega)
  have bcb : ln (c * b).natAbs ≤ 2000 := Nat.le_trans (ln_zmul c b) (by omega)
  have bbd : ln (b * d).natAbs ≤ 2000 := Nat.le_trans (ln_zmul b d) (by omega)
  have bs : ln (a * d + c * b).natAbs ≤ 2001 := Nat.le_trans (ln_zadd _ _) (by omega)
  have HD0 := Hd.mk (Int.mul_ne_zero hb0 hd0)
  clear hb0 hd0
  go_enter Try.func111, Try.ntmps111
  go_upto_region 1 with fail
  obtain ⟨W0, hW0⟩ : ∃ W : World, W = ((w.alloc (.cells #[u0, x0, y0, z0] 109)).alloc (.cells #[u1, x1, y1, z1] 109)).alloc (.cells #[Value.bool false, Value.slice none 0 0, Value.bool false, Value.slice none 0 0] 109) := ⟨_, rfl⟩
  rw [← hW0]
  obtain ⟨he, hb⟩ := env_three (cp2 p0 q0) (cp2 p1 q1) (cp2 (cp0 _) (cp0 _)) hW0
  have HE := Hd.mk he
  have HB := Hd.mk hb
  clear he hb hW0
  refine wp_region_vs 17 [5, 6, 7, 8, 9, 10, 11, 12, 13, 14, 15, 16, 17, 18, 19, 20, 21] [0, 2, 5, 7, 11, 13] [] 70 [.bool false, .slice none 0 0] [isV (.pointer (some ⟨w.heap.size, 0, none⟩)), isZ a, isV (.pointer (some ⟨w.heap.size + 1, 2, none⟩)), isZ d, isZ (a * d), isV (.pointer (some ⟨w.heap.size + 1, 0, none⟩)), isZ c, isV (.pointer (some ⟨w.heap.size, 2, none⟩)), isZ b, isZ (c * b), isZ ((a * d) + (c * b)), isV (.pointer (some ⟨w.heap.size, 2, none⟩)), isZ b, isV (.pointer (some ⟨w.heap.size + 1, 2, none⟩)), isZ d, isZ (b * d), isL [zC (qn ((a * d) + (c * b)) (b * d)), zC (qd ((a * d) + (c * b)) (b * d))]] (by kernel_rfl) (by kernel_rfl) (by kernel_rfl) (by rfl) alloc_whole (fun d v c a w h => by cases d <;> exact h) ?_ ?_
  · intro i hi hA aa wx hb hs hd
    match i, hi, hA with
    | 0, _, _ => exact ⟨_, op_faS0 rfl (hs 2 rfl), rfl⟩
    | 1, _, _ => exact op_ldZz rfl rfl (hd 0 rfl) ((HE.out.to hb).get 0 rfl).a0
    | 2, _, _ => exact ⟨_, op_faS1 rfl (hs 3 rfl), rfl⟩
    | 3, _, _ => exact op_ldZz rfl rfl (hd 2 rfl) ((HE.out.to hb).get 1 rfl).a2
    | 4, _, _ => exact op_call2 rfl rfl Try.call31 (rTimes_got a d _ _ _ (hd 1 rfl) (hd 3 rfl) (by omega) (by omega))
    | 5, _, _ => exact ⟨_, op_faS0 rfl (hs 3 rfl), rfl⟩
    | 6, _, _ => exact op_ldZz rfl rfl (hd 5 rfl) ((HE.out.to hb).get 1 rfl).a0
    | 7, _, _ => exact ⟨_, op_faS1 rfl (hs 2 rfl), rfl⟩
    | 8, _, _ => exact op_ldZz rfl rfl (hd 7 rfl) ((HE.out.to hb).get 0 rfl).a2
    | 9, _, _ => exact op_call2 rfl rfl Try.call31 (rTimes_got c b _ _ _ (hd 6 rfl) (hd 8 rfl) (by omega) (by omega))
    | 10, _, _ => exact op_call2 rfl rfl Try.call33 (rPlus_got (a * d) (c * b) _ _ _ (hd 4 rfl) (hd 9 rfl) (by omega) (by omega))
    | 11, _, _ => exact ⟨_, op_faS1 rfl (hs 2 rfl), rfl⟩
    | 12, _, _ => exact op_ldZz rfl rfl (hd 11 rfl) ((HE.out.to hb).get 0 rfl).a2
    | 13, _, _ => exact ⟨_, op_faS1 rfl (hs 3 rfl), rfl⟩
    | 14, _, _ => exact op_ldZz rfl rfl (hd 13 rfl) ((HE.out.to hb).get 1 rfl).a2
    | 15, _, _ => exact op_call2 rfl rfl Try.call31 (rTimes_got b d _ _ _ (hd 12 rfl) (hd 14 rfl) (by omega) (by omega))
    | 16, _, _ => exact op_call2 rfl rfl Try.call134 (rRatio_got ((a * d) + (c * b)) (b * d) HD0.out (by omega) (by omega) _ _ _ (isL_isZ.2 (hd 10 rfl)) (isL_isZ.2 (hd 15 rfl)))
    | i + 17, h, _ => omega
  · intro vs X1 hb hv hal hne
    replace HB := Hd.mk (bel_then HB.out hb)
    replace HE : Hd (Env X1 [⟨w.heap.size, 109, [zC a, zC b]⟩, ⟨w.heap.size + 1, 109, [zC c, zC d]⟩, ⟨w.heap.size + 1 + 1, 109, [zC 0, zC 0]⟩]) := ⟨HE.out.to hb⟩
    have t21 : (isL [zC (qn ((a * d) + (c * b)) (b * d)), zC (qd ((a * d) + (c * b)) (b * d))]).p (vs 21) X1 := hv 16 (by decide) rfl
    obtain ⟨u21, y21, p21, q21, e21, c21, k21⟩ := isL_two.1 t21
    simp only [putAll, List.foldl_cons, List.foldl_nil, Act.put, List.setIfInBounds_toArray, List.set_cons_succ, List.set_cons_zero, List.drop_succ_cons, List.drop_zero, e21]
    generalize vs 5 = s5
    generalize vs 6 = s6
    generalize vs 7 = s7
    generalize vs 8 = s8
    generalize vs 9 = s9
    generalize vs 10 = s10
    generalize vs 11 = s11
    generalize vs 12 = s12
    generalize vs 13 = s13
    generalize vs 14 = s14
    generalize vs 15 = s15
    generalize vs 16 = s16
    generalize vs 17 = s17
    generalize vs 18 = s18
    generalize vs 19 = s19
    generalize vs 20 = s20
    refine wpList_st rfl rfl rfl rfl rfl (sto_S c21 k21 (HE.out.get 2 rfl)) ?_
    have HE' : Env (putAt (putAt X1 (w.heap.size + 1 + 1) 0 u21 y21) (w.heap.size + 1 + 1) 2 p21 q21) [⟨w.heap.size, 109, [zC a, zC b]⟩, ⟨w.heap.size + 1, 109, [zC c, zC d]⟩, ⟨w.heap.size + 1 + 1, 109, [zC (qn ((a * d) + (c * b)) (b * d)), zC (qd ((a * d) + (c * b)) (b * d))]⟩] := HE.out.put4 2 rfl c21 k21
    have HB' := below_put4 (u := u21) (v := y21) (u' := p21) (v' := q21) HB.out (show w.heap.size ≤ w.heap.size + 1 + 1 from by omega)
    generalize putAt (putAt X1 (w.heap.size + 1 + 1) 0 u21 y21) (w.heap.size + 1 + 1) 2 p21 q21 = X2 at *
    replace HE := Hd.mk HE'
    replace HB := Hd.mk HB'
    clear HE' HB'
    clear hv hal hne hb
    go_wp2_with fail
    obtain ⟨r0a, r0b, r0c, r0d, k0a, k0b, k0c, k0d, h0a, h0b⟩ := (HE.out.get 2 rfl).cells2
    refine bodyPost_ret (v := .agg #[r0a, r0b, r0c, r0d]) (by simp [results, Try.results111, go_sem, k0a, k0b, k0c, k0d]) rfl ?_
    exact ⟨_, rfl, HB.out, isL_two.2 ⟨_, _, _, _, rfl, h0a, h0b⟩⟩
set_option maxRecDepth 100000 in
set_option maxHeartbeats 1000000 in
theorem rMinusQ_got (a b : Int) (v0 : Value) (w : World) (h0 : (isL [zC a, zC b]).p v0 w) :
    Calls Try.prog 135 #[v0] w (Got w (isL [zC (-a), zC b]).p) := by
  obtain ⟨u0, x0, y0, z0, rfl, p0, q0⟩ := isL_two.1 h0
  clear h0
  go_enter Try.func135, Try.ntmps135
  go_upto_region 1 with fail
  obtain ⟨W0, hW0⟩ : ∃ W : World, W = (w.alloc (.cells #[u0, x0, y0, z0] 109)).alloc (.cells #[Value.bool false, Value.slice none 0 0, Value.bool false, Value.slice none 0 0] 109) := ⟨_, rfl⟩
  rw [← hW0]
  obtain ⟨he, hb⟩ := env_two (cp2 p0 q0) (cp2 (cp0 _) (cp0 _)) hW0
  have HE := Hd.mk he
  have HB := Hd.mk hb
  clear he hb hW0
  refine wp_region_vs 6 [3, 4, 5, 6, 7, 8] [0, 3, 5] [] 70 [.bool false, .slice none 0 0] [isV (.pointer (some ⟨w.heap.size, 0, none⟩)), isZ a, isZ (-a), isV (.pointer (some ⟨w.heap.size, 2, none⟩)), isZ b, isL [zC (-a), zC b]] (by kernel_rfl) (by kernel_rfl) (by kernel_rfl) (by rfl) alloc_whole (fun d v c a w h => by cases d <;> exact h) ?_ ?_
  · intro i hi hA aa wx hb hs hd
    match i, hi, hA with
    | 0, _, _ => exact ⟨_, op_faS0 rfl (hs 1 rfl), rfl⟩
    | 1, _, _ => exact op_ldZz rfl rfl (hd 0 rfl) ((HE.out.to hb).get 0 rfl).a0
    | 2, _, _ => exact op_call1 rfl rfl Try.call46 (rMinus_got a _ _ (hd 1 rfl))
    | 3, _, _ => exact ⟨_, op_faS1 rfl (hs 1 rfl), rfl⟩
    | 4, _, _ => exact op_ldZz rfl rfl (hd 3 rfl) ((HE.out.to hb).get 0 rfl).a2
    | 5, _, _ => exact op_bdS rfl (isL_isZ.2 (hd 2 rfl)) (isL_isZ.2 (hd 4 rfl))
    | i + 6, h, _ => omega
  · intro vs X1 hb hv hal hne
    replace HB := Hd.mk (bel_then HB.out hb)
    replace HE : Hd (Env X1 [⟨w.heap.size, 109, [zC a, zC b]⟩, ⟨w.heap.size + 1, 109, [zC 0, zC 0]⟩]) := ⟨HE.out.to hb⟩
    have t8 : (isL [zC (-a), zC b]).p (vs 8) X1 := hv 5 (by decide) rfl
    obtain ⟨u8, y8, p8, q8, e8, c8, k8⟩ := isL_two.1 t8
    simp only [putAll, List.foldl_cons, List.foldl_nil, Act.put, List.setIfInBounds_toArray, List.set_cons_succ, List.set_cons_zero, List.drop_succ_cons, List.drop_zero, e8]
    generalize vs 3 = s3
    generalize vs 4 = s4
    generalize vs 5 = s5
    generalize vs 6 = s6
    generalize vs 7 = s7
    refine wpList_st rfl rfl rfl rfl rfl (sto_S c8 k8 (HE.out.get 1 rfl)) ?_
    have HE' : Env (putAt (putAt X1 (w.heap.size + 1) 0 u8 y8) (w.heap.size + 1) 2 p8 q8) [⟨w.heap.size, 109, [zC a, zC b]⟩, ⟨w.heap.size + 1, 109, [zC (-a), zC b]⟩] := HE.out.put4 1 rfl c8 k8
    have HB' := below_put4 (u := u8) (v := y8) (u' := p8) (v' := q8) HB.out (show w.heap.size ≤ w.heap.size + 1 from by omega)
    generalize putAt (putAt X1 (w.heap.size + 1) 0 u8 y8) (w.heap.size + 1) 2 p8 q8 = X2 at *
    replace HE := Hd.mk HE'
    replace HB := Hd.mk HB'
    clear HE' HB'
    clear hv hal hne hb
    go_wp2_with fail
    obtain ⟨r0a, r0b, r0c, r0d, k0a, k0b, k0c, k0d, h0a, h0b⟩ := (HE.out.get 1 rfl).cells2
    refine bodyPost_ret (v := .agg #[r0a, r0b, r0c, r0d]) (by simp [results, Try.results135, go_sem, k0a, k0b, k0c, k0d]) rfl ?_
    exact ⟨_, rfl, HB.out, isL_two.2 ⟨_, _, _, _, rfl, h0a, h0b⟩⟩
set_option maxRecDepth 100000 in
set_option maxHeartbeats 1000000 in
theorem rLessQ_got (a b c d : Int) (hb0 : b ≠ 0) (hd0 : d ≠ 0) (la : ln a.natAbs ≤ 1000) (lb : ln b.natAbs ≤ 1000) (lc : ln c.natAbs ≤ 1000) (ld : ln d.natAbs ≤ 1000) (v0 v1 : Value) (w : World) (h0 : (isL [zC a, zC b]).p v0 w) (h1 : (isL [zC c, zC d]).p v1 w) :
    Calls Try.prog 112 #[v0, v1] w (Got w (isL [zC (qn (a * d + -c * b) (b * d)), zC (qd (a * d + -c * b) (b * d))]).p) := by
  obtain ⟨u0, x0, y0, z0, rfl, p0, q0⟩ := isL_two.1 h0
  obtain ⟨u1, x1, y1, z1, rfl, p1, q1⟩ := isL_two.1 h1
  clear h0 h1
  have lc2 : ln (-c).natAbs ≤ 1000 := by rw [ln_zneg]; exact lc
  have HB0 := Hd.mk hb0
  have HD0 := Hd.mk hd0
  clear hb0 hd0
  go_enter Try.func112, Try.ntmps112
  go_upto_region 1 with fail
  obtain ⟨W0, hW0⟩ : ∃ W : World, W = ((w.alloc (.cells #[u0, x0, y0, z0] 109)).alloc (.cells #[u1, x1, y1, z1] 109)).alloc (.cells #[Value.bool false, Value.slice none 0 0, Value.bool false, Value.slice none 0 0] 109) := ⟨_, rfl⟩
  rw [← hW0]
  obtain ⟨he, hb⟩ := env_three (cp2 p0 q0) (cp2 p1 q1) (cp2 (cp0 _) (cp0 _)) hW0
  have HE := Hd.mk he
  have HB := Hd.mk hb
  clear he hb hW0
  refine wp_region_vs 4 [5, 6, 7, 8] [] [] 70 [.bool false, .slice none 0 0] [isL [zC a, zC b], isL [zC c, zC d], isL [zC (-c), zC d], isL [zC (qn (a * d + -c * b) (b * d)), zC (qd (a * d + -c * b) (b * d))]] (by kernel_rfl) (by kernel_rfl) (by kernel_rfl) (by rfl) alloc_whole (fun d v c a w h => by cases d <;> exact h) ?_ ?_
  · intro i hi hA aa wx hb hs hd
    match i, hi, hA with
    | 0, _, _ => exact op_ldS rfl rfl (hs 2 rfl) ((HE.out.to hb).get 0 rfl)
    | 1, _, _ => exact op_ldS rfl rfl (hs 3 rfl) ((HE.out.to hb).get 1 rfl)
    | 2, _, _ => exact op_call1 rfl rfl Try.call135 (rMinusQ_got c d _ _ (hd 1 rfl))
    | 3, _, _ => exact op_call2 rfl rfl Try.call111 (rPlusQ_got a b (-c) d HB0.out HD0.out la lb lc2 ld _ _ _ (hd 0 rfl) (hd 2 rfl))
    | i + 4, h, _ => omega
  · intro vs X1 hb hv hal hne
    replace HB := Hd.mk (bel_then HB.out hb)
    replace HE : Hd (Env X1 [⟨w.heap.size, 109, [zC a, zC b]⟩, ⟨w.heap.size + 1, 109, [zC c, zC d]⟩, ⟨w.heap.size + 1 + 1, 109, [zC 0, zC 0]⟩]) := ⟨HE.out.to hb⟩
    have t8 : (isL [zC (qn (a * d + -c * b) (b * d)), zC (qd (a * d + -c * b) (b * d))]).p (vs 8) X1 := hv 3 (by decide) rfl
    obtain ⟨u8, y8, p8, q8, e8, c8, k8⟩ := isL_two.1 t8
    simp only [putAll, List.foldl_cons, List.foldl_nil, Act.put, List.setIfInBounds_toArray, List.set_cons_succ, List.set_cons_zero, List.drop_succ_cons, List.drop_zero, e8]
    generalize vs 5 = s5
    generalize vs 6 = s6
    generalize vs 7 = s7
    refine wpList_st rfl rfl rfl rfl rfl (sto_S c8 k8 (HE.out.get 2 rfl)) ?_
    have HE' : Env (putAt (putAt X1 (w.heap.size + 1 + 1) 0 u8 y8) (w.heap.size + 1 + 1) 2 p8 q8) [⟨w.heap.size, 109, [zC a, zC b]⟩, ⟨w.heap.size + 1, 109, [zC c, zC d]⟩, ⟨w.heap.size + 1 + 1, 109, [zC (qn (a * d + -c * b) (b * d)), zC (qd (a * d + -c * b) (b * d))]⟩] := HE.out.put4 2 rfl c8 k8
    have HB' := below_put4 (u := u8) (v := y8) (u' := p8) (v' := q8) HB.out (show w.heap.size ≤ w.heap.size + 1 + 1 from by omega)
    generalize putAt (putAt X1 (w.heap.size + 1 + 1) 0 u8 y8) (w.heap.size + 1 + 1) 2 p8 q8 = X2 at *
    replace HE := Hd.mk HE'
    replace HB := Hd.mk HB'
    clear HE' HB'
    clear hv hal hne hb
    go_wp2_with fail
    obtain ⟨r0a, r0b, r0c, r0d, k0a, k0b, k0c, k0d, h0a, h0b⟩ := (HE.out.get 2 rfl).cells2
    refine bodyPost_ret (v := .agg #[r0a, r0b, r0c, r0d]) (by simp [results, Try.results112, go_sem, k0a, k0b, k0c, k0d]) rfl ?_
    exact ⟨_, rfl, HB.out, isL_two.2 ⟨_, _, _, _, rfl, h0a, h0b⟩⟩
set_option maxRecDepth 100000 in
set_option maxHeartbeats 1000000 in
theorem rOrderQ_got (a b c d : Int) (la : ln a.natAbs ≤ 1000) (lb : ln b.natAbs ≤ 1000) (lc : ln c.natAbs ≤ 1000) (ld : ln d.natAbs ≤ 1000) (v0 v1 : Value) (w : World) (h0 : (isL [zC a, zC b]).p v0 w) (h1 : (isL [zC c, zC d]).p v1 w) :
    Calls Try.prog 108 #[v0, v1] w (Got w (isV (.int .i64 (sgnv (a * d - c * b)))).p) := by
  obtain ⟨u0, x0, y0, z0, rfl, p0, q0⟩ := isL_two.1 h0
  obtain ⟨u1, x1, y1, z1, rfl, p1, q1⟩ := isL_two.1 h1
  clear h0 h1
  have bad : ln (a * d).natAbs ≤ 2000 := Nat.le_trans (ln_zmul a d) (by omega)
  have bcb : ln (c * b).natAbs ≤ 2000 := Nat.le_trans (ln_zmul c b) (by omega)
  go_enter Try.func108, Try.ntmps108
  go_upto_region 1 with fail
  obtain ⟨W0, hW0⟩ : ∃ W : World, W = (w.alloc (.cells #[u0, x0, y0, z0] 109)).alloc (.cells #[u1, x1, y1, z1] 109) := ⟨_, rfl⟩
  rw [← hW0]
  obtain ⟨he, hb⟩ := env_two (cp2 p0 q0) (cp2 p1 q1) hW0
  have HE := Hd.mk he
  have HB := Hd.mk hb
  clear he hb hW0
  refine wp_region_vs 11 [5, 6, 7, 8, 9, 10, 11, 12, 13, 14, 15] [0, 2, 5, 7] [] 70 [.bool false, .slice none 0 0] [isV (.pointer (some ⟨w.heap.size, 0, none⟩)), isZ a, isV (.pointer (some ⟨w.heap.size + 1, 2, none⟩)), isZ d, isZ (a * d), isV (.pointer (some ⟨w.heap.size + 1, 0, none⟩)), isZ c, isV (.pointer (some ⟨w.heap.size, 2, none⟩)), isZ b, isZ (c * b), isV (.int .i64 (sgnv ((a * d) - (c * b))))] (by kernel_rfl) (by kernel_rfl) (by kernel_rfl) (by rfl) alloc_whole (fun d v c a w h => by cases d <;> exact h) ?_ ?_
  · intro i hi hA aa wx hb hs hd
    match i, hi, hA with
    | 0, _, _ => exact ⟨_, op_faS0 rfl (hs 2 rfl), rfl⟩
    | 1, _, _ => exact op_ldZz rfl rfl (hd 0 rfl) ((HE.out.to hb).get 0 rfl).a0
    | 2, _, _ => exact ⟨_, op_faS1 rfl (hs 3 rfl), rfl⟩
    | 3, _, _ => exact op_ldZz rfl rfl (hd 2 rfl) ((HE.out.to hb).get 1 rfl).a2
    | 4, _, _ => exact op_call2 rfl rfl Try.call31 (rTimes_got a d _ _ _ (hd 1 rfl) (hd 3 rfl) (by omega) (by omega))
    | 5, _, _ => exact ⟨_, op_faS0 rfl (hs 3 rfl), rfl⟩
    | 6, _, _ => exact op_ldZz rfl rfl (hd 5 rfl) ((HE.out.to hb).get 1 rfl).a0
    | 7, _, _ => exact ⟨_, op_faS1 rfl (hs 2 rfl), rfl⟩
    | 8, _, _ => exact op_ldZz rfl rfl (hd 7 rfl) ((HE.out.to hb).get 0 rfl).a2
    | 9, _, _ => exact op_call2 rfl rfl Try.call31 (rTimes_got c b _ _ _ (hd 6 rfl) (hd 8 rfl) (by omega) (by omega))
    | 10, _, _ => exact op_call2 rfl rfl Try.call34 (rOrd_got (a * d) (c * b) _ _ _ (hd 4 rfl) (hd 9 rfl) (by omega) (by omega))
    | i + 11, h, _ => omega
  · intro vs X1 hb hv hal hne
    replace HB := Hd.mk (bel_then HB.out hb)
    replace HE : Hd (Env X1 [⟨w.heap.size, 109, [zC a, zC b]⟩, ⟨w.heap.size + 1, 109, [zC c, zC d]⟩]) := ⟨HE.out.to hb⟩
    have e15 : vs 15 = .int .i64 (sgnv ((a * d) - (c * b))) := hv 10 (by decide) rfl
    simp only [putAll, List.foldl_cons, List.foldl_nil, Act.put, List.setIfInBounds_toArray, List.set_cons_succ, List.set_cons_zero, List.drop_succ_cons, List.drop_zero, e15]
    generalize vs 5 = s5
    generalize vs 6 = s6
    generalize vs 7 = s7
    generalize vs 8 = s8
    generalize vs 9 = s9
    generalize vs 10 = s10
    generalize vs 11 = s11
    generalize vs 12 = s12
    generalize vs 13 = s13
    generalize vs 14 = s14
    clear hv hal hne hb
    go_wp2_with fail
    go_ret
    exact ⟨_, rfl, HB.out, rfl⟩
set_option maxRecDepth 100000 in
set_option maxHeartbeats 1000000 in
theorem rRat_got (a b : Int) (la : ln a.natAbs ≤ 100000) (lb : ln b.natAbs ≤ 100000) (v0 : Value) (w : World) (h0 : (isL [zC a, zC b]).p v0 w) :
    Calls Try.prog 133 #[v0] w (Got w (isP (isL [zC (fitn a b), zC (fitd a b)]) (isV (.bool (fitb a b)))).p) := by
  obtain ⟨u0, x0, y0, z0, rfl, p0, q0⟩ := isL_two.1 h0
  clear h0
  by_cases h : fitb a b = true
  · have hfb : fitb a b = true := h
    have e1 : fitn a b = a := if_pos hfb
    have e2 : fitd a b = b := if_pos hfb
    have h12 : decide (ln a.natAbs ≤ 256) = true ∧ decide (ln b.natAbs ≤ 256) = true := by unfold fitb at hfb; simpa using hfb
    rw [e1, e2, hfb]
    have H1 := Hd.mk h12.1
    have H2 := Hd.mk h12.2
    clear e1 e2 hfb h h12
    go_enter Try.func133, Try.ntmps133
    go_upto_region 1 with fail
    obtain ⟨W0, hW0⟩ : ∃ W : World, W = (w.alloc (.cells #[u0, x0, y0, z0] 109)).alloc (.cells #[Value.bool false, Value.slice none 0 0, Value.bool false, Value.slice none 0 0] 58) := ⟨_, rfl⟩
    rw [← hW0]
    obtain ⟨he, hb⟩ := env_two (cp2 p0 q0) (cp2 (cp0 _) (cp0 _)) hW0
    have HE := Hd.mk he
    have HB := Hd.mk hb
    clear he hb hW0
    refine wp_region_vd 10 [4, 5, 6, 7, 8, 9, 10, 11, 12, 13] [0, 3, 4, 5, 8, 9] [] 70 [.bool false, .slice none 0 0] [isV (.pointer (some ⟨w.heap.size, 0, none⟩)), isZ a, isV (.bool true), isV (.bool false), isV (.bool false), isV (.pointer (some ⟨w.heap.size, 2, none⟩)), isZ b, isV (.bool true), isV (.bool false), isV (.bool false)] (by rfl) alloc_whole ?_ ?_
    · intro i hi hA aa wx hb hs hd
      match i, hi, hA with
      | 0, _, _ => exact .inl ⟨rfl, ⟨_, op_faS0 rfl (hs 1 rfl), rfl⟩⟩
      | 1, _, _ => exact .inl ⟨rfl, op_ldZz rfl rfl (hd 0 rfl) ((HE.out.to hb).get 0 rfl).a0⟩
      | 2, _, _ => exact .inl ⟨rfl, wp_b H1.out (op_call1 rfl rfl Try.call86 (rFits_got a _ _ (hd 1 rfl) (by omega)))⟩
      | 3, _, _ => exact .inl ⟨rfl, ⟨_, op_not rfl (hd 2 rfl), rfl⟩⟩
      | 4, _, _ => exact .inl ⟨rfl, op_mv rfl (hd 3 rfl)⟩
      | 5, _, _ => exact .inl ⟨⟨rfl, hd 4 rfl⟩, ⟨_, op_faS1 rfl (hs 1 rfl), rfl⟩⟩
      | 6, _, _ => exact .inl ⟨⟨rfl, hd 4 rfl⟩, op_ldZz rfl rfl (hd 5 rfl) ((HE.out.to hb).get 0 rfl).a2⟩
      | 7, _, _ => exact .inl ⟨⟨rfl, hd 4 rfl⟩, wp_b H2.out (op_call1 rfl rfl Try.call86 (rFits_got b _ _ (hd 6 rfl) (by omega)))⟩
      | 8, _, _ => exact .inl ⟨⟨rfl, hd 4 rfl⟩, ⟨_, op_not rfl (hd 7 rfl), rfl⟩⟩
      | 9, _, _ => exact .inl ⟨rfl, ⟨_, op_pickF rfl (hd 4 rfl) (hd 8 rfl), rfl⟩⟩
      | i + 10, h, _ => omega
    · intro vs X1 hb hv hal hne
      replace HB := Hd.mk (bel_then HB.out hb)
      replace HE : Hd (Env X1 [⟨w.heap.size, 109, [zC a, zC b]⟩, ⟨w.heap.size + 1, 58, [zC 0, zC 0]⟩]) := ⟨HE.out.to hb⟩
      have e13 : vs 13 = .bool false := hv 9 (by decide) rfl
      simp only [putAll, List.foldl_cons, List.foldl_nil, Act.put, List.setIfInBounds_toArray, List.set_cons_succ, List.set_cons_zero, List.drop_succ_cons, List.drop_zero, e13]
      generalize vs 4 = s4
      generalize vs 5 = s5
      generalize vs 6 = s6
      generalize vs 7 = s7
      generalize vs 8 = s8
      generalize vs 9 = s9
      generalize vs 10 = s10
      generalize vs 11 = s11
      generalize vs 12 = s12
      clear hv hal hne hb
      go_upto_region 3 with fail
      refine wp_region_vs 7 [15, 16, 17, 18, 19, 20, 21] [0, 3, 6] [] 70 [.bool false, .slice none 0 0] [isV (.pointer (some ⟨w.heap.size, 0, none⟩)), isZ a, isZ a, isV (.pointer (some ⟨w.heap.size, 2, none⟩)), isZ b, isZ b, isL [zC a, zC b]] (by kernel_rfl) (by kernel_rfl) (by kernel_rfl) (by rfl) alloc_whole (fun d v c a w h => by cases d <;> exact h) ?_ ?_
      · intro i hi hA aa wx hb hs hd
        match i, hi, hA with
        | 0, _, _ => exact ⟨_, op_faS0 rfl (hs 1 rfl), rfl⟩
        | 1, _, _ => exact op_ldZz rfl rfl (hd 0 rfl) ((HE.out.to hb).get 0 rfl).a0
        | 2, _, _ => exact op_call1 rfl rfl Try.call23 (rInt_got a _ _ (hd 1 rfl))
        | 3, _, _ => exact ⟨_, op_faS1 rfl (hs 1 rfl), rfl⟩
        | 4, _, _ => exact op_ldZz rfl rfl (hd 3 rfl) ((HE.out.to hb).get 0 rfl).a2
        | 5, _, _ => exact op_call1 rfl rfl Try.call23 (rInt_got b _ _ (hd 4 rfl))
        | 6, _, _ => exact op_bdR rfl (isL_isZ.2 (hd 2 rfl)) (isL_isZ.2 (hd 5 rfl))
        | i + 7, h, _ => omega
      · intro vs X2 hb hv hal hne
        replace HB := Hd.mk (bel_then HB.out hb)
        replace HE : Hd (Env X2 [⟨w.heap.size, 109, [zC a, zC b]⟩, ⟨w.heap.size + 1, 58, [zC 0, zC 0]⟩]) := ⟨HE.out.to hb⟩
        have t21 : (isL [zC a, zC b]).p (vs 21) X2 := hv 6 (by decide) rfl
        obtain ⟨u21, y21, p21, q21, e21, c21, k21⟩ := isL_two.1 t21
        simp only [putAll, List.foldl_cons, List.foldl_nil, Act.put, List.setIfInBounds_toArray, List.set_cons_succ, List.set_cons_zero, List.drop_succ_cons, List.drop_zero, e21]
        generalize vs 15 = s15
        generalize vs 16 = s16
        generalize vs 17 = s17
        generalize vs 18 = s18
        generalize vs 19 = s19
        generalize vs 20 = s20
        refine wpList_st rfl rfl rfl rfl rfl (sto_R c21 k21 (HE.out.get 1 rfl)) ?_
        have HE' : Env (putAt (putAt X2 (w.heap.size + 1) 0 u21 y21) (w.heap.size + 1) 2 p21 q21) [⟨w.heap.size, 109, [zC a, zC b]⟩, ⟨w.heap.size + 1, 58, [zC a, zC b]⟩] := HE.out.put4 1 rfl c21 k21
        have HB' := below_put4 (u := u21) (v := y21) (u' := p21) (v' := q21) HB.out (show w.heap.size ≤ w.heap.size + 1 from by omega)
        generalize putAt (putAt X2 (w.heap.size + 1) 0 u21 y21) (w.heap.size + 1) 2 p21 q21 = X3 at *
        replace HE := Hd.mk HE'
        replace HB := Hd.mk HB'
        clear HE' HB'
        clear hv hal hne hb
        go_wp2_with fail
        obtain ⟨r0a, r0b, r0c, r0d, k0a, k0b, k0c, k0d, h0a, h0b⟩ := (HE.out.get 1 rfl).cells2
        refine bodyPost_ret (v := .tuple #[.agg #[r0a, r0b, r0c, r0d], .bool true]) (by simp [results, Try.results133, go_sem, k0a, k0b, k0c, k0d]) rfl ?_
        exact ⟨_, rfl, HB.out, _, _, rfl, isL_two.2 ⟨_, _, _, _, rfl, h0a, h0b⟩, rfl⟩
  · have hfb : fitb a b = false := by simpa using h
    have e1 : fitn a b = 0 := if_neg (by rw [hfb]; decide)
    have e2 : fitd a b = 0 := if_neg (by rw [hfb]; decide)
    rw [e1, e2, hfb]
    by_cases h1 : decide (ln a.natAbs ≤ 256) = true
    · have h2 : decide (ln b.natAbs ≤ 256) = false := by unfold fitb at hfb; rw [h1] at hfb; simpa using hfb
      have H1 := Hd.mk h1
      have H2 := Hd.mk h2
      clear e1 e2 hfb h h1 h2
      go_enter Try.func133, Try.ntmps133
      go_upto_region 1 with fail
      obtain ⟨W0, hW0⟩ : ∃ W : World, W = (w.alloc (.cells #[u0, x0, y0, z0] 109)).alloc (.cells #[Value.bool false, Value.slice none 0 0, Value.bool false, Value.slice none 0 0] 58) := ⟨_, rfl⟩
      rw [← hW0]
      obtain ⟨he, hb⟩ := env_two (cp2 p0 q0) (cp2 (cp0 _) (cp0 _)) hW0
      have HE := Hd.mk he
      have HB := Hd.mk hb
      clear he hb hW0
      refine wp_region_vd 10 [4, 5, 6, 7, 8, 9, 10, 11, 12, 13] [0, 3, 4, 5, 8, 9] [] 70 [.bool false, .slice none 0 0] [isV (.pointer (some ⟨w.heap.size, 0, none⟩)), isZ a, isV (.bool true), isV (.bool false), isV (.bool false), isV (.pointer (some ⟨w.heap.size, 2, none⟩)), isZ b, isV (.bool false), isV (.bool true), isV (.bool true)] (by rfl) alloc_whole ?_ ?_
      · intro i hi hA aa wx hb hs hd
        match i, hi, hA with
        | 0, _, _ => exact .inl ⟨rfl, ⟨_, op_faS0 rfl (hs 1 rfl), rfl⟩⟩
        | 1, _, _ => exact .inl ⟨rfl, op_ldZz rfl rfl (hd 0 rfl) ((HE.out.to hb).get 0 rfl).a0⟩
        | 2, _, _ => exact .inl ⟨rfl, wp_b H1.out (op_call1 rfl rfl Try.call86 (rFits_got a _ _ (hd 1 rfl) (by omega)))⟩
        | 3, _, _ => exact .inl ⟨rfl, ⟨_, op_not rfl (hd 2 rfl), rfl⟩⟩
        | 4, _, _ => exact .inl ⟨rfl, op_mv rfl (hd 3 rfl)⟩
        | 5, _, _ => exact .inl ⟨⟨rfl, hd 4 rfl⟩, ⟨_, op_faS1 rfl (hs 1 rfl), rfl⟩⟩
        | 6, _, _ => exact .inl ⟨⟨rfl, hd 4 rfl⟩, op_ldZz rfl rfl (hd 5 rfl) ((HE.out.to hb).get 0 rfl).a2⟩
        | 7, _, _ => exact .inl ⟨⟨rfl, hd 4 rfl⟩, wp_b H2.out (op_call1 rfl rfl Try.call86 (rFits_got b _ _ (hd 6 rfl) (by omega)))⟩
        | 8, _, _ => exact .inl ⟨⟨rfl, hd 4 rfl⟩, ⟨_, op_not rfl (hd 7 rfl), rfl⟩⟩
        | 9, _, _ => exact .inl ⟨rfl, ⟨_, op_pickF rfl (hd 4 rfl) (hd 8 rfl), rfl⟩⟩
        | i + 10, h, _ => omega
      · intro vs X1 hb hv hal hne
        replace HB := Hd.mk (bel_then HB.out hb)
        replace HE : Hd (Env X1 [⟨w.heap.size, 109, [zC a, zC b]⟩, ⟨w.heap.size + 1, 58, [zC 0, zC 0]⟩]) := ⟨HE.out.to hb⟩
        have e13 : vs 13 = .bool true := hv 9 (by decide) rfl
        simp only [putAll, List.foldl_cons, List.foldl_nil, Act.put, List.setIfInBounds_toArray, List.set_cons_succ, List.set_cons_zero, List.drop_succ_cons, List.drop_zero, e13]
        generalize vs 4 = s4
        generalize vs 5 = s5
        generalize vs 6 = s6
        generalize vs 7 = s7
        generalize vs 8 = s8
        generalize vs 9 = s9
        generalize vs 10 = s10
        generalize vs 11 = s11
        generalize vs 12 = s12
        clear hv hal hne hb
        go_upto_region 2 with fail
        refine wp_region_vd 1 [14] [0] [] 70 [.bool false, .slice none 0 0] [isL [zC 0, zC 0]] (by rfl) alloc_whole ?_ ?_
        · intro i hi hA aa wx hb hs hd
          match i, hi, hA with
          | 0, _, _ => exact .inl ⟨rfl, op_b0R rfl⟩
          | i + 1, h, _ => omega
        · intro vs X2 hb hv hal hne
          replace HB := Hd.mk (bel_then HB.out hb)
          replace HE : Hd (Env X2 [⟨w.heap.size, 109, [zC a, zC b]⟩, ⟨w.heap.size + 1, 58, [zC 0, zC 0]⟩]) := ⟨HE.out.to hb⟩
          have t14 : (isL [zC 0, zC 0]).p (vs 14) X2 := hv 0 (by decide) rfl
          obtain ⟨u14, y14, p14, q14, e14, c14, k14⟩ := isL_two.1 t14
          simp only [putAll, List.foldl_cons, List.foldl_nil, Act.put, List.setIfInBounds_toArray, List.set_cons_succ, List.set_cons_zero, List.drop_succ_cons, List.drop_zero, e14]
          refine wpList_st rfl rfl rfl rfl rfl (sto_R c14 k14 (HE.out.get 1 rfl)) ?_
          have HE' : Env (putAt (putAt X2 (w.heap.size + 1) 0 u14 y14) (w.heap.size + 1) 2 p14 q14) [⟨w.heap.size, 109, [zC a, zC b]⟩, ⟨w.heap.size + 1, 58, [zC 0, zC 0]⟩] := HE.out.put4 1 rfl c14 k14
          have HB' := below_put4 (u := u14) (v := y14) (u' := p14) (v' := q14) HB.out (show w.heap.size ≤ w.heap.size + 1 from by omega)
          generalize putAt (putAt X2 (w.heap.size + 1) 0 u14 y14) (w.heap.size + 1) 2 p14 q14 = X3 at *
          replace HE := Hd.mk HE'
          replace HB := Hd.mk HB'
          clear HE' HB'
          clear hv hal hne hb
          go_wp2_with fail
          obtain ⟨r0a, r0b, r0c, r0d, k0a, k0b, k0c, k0d, h0a, h0b⟩ := (HE.out.get 1 rfl).cells2
          refine bodyPost_ret (v := .tuple #[.agg #[r0a, r0b, r0c, r0d], .bool false]) (by simp [results, Try.results133, go_sem, k0a, k0b, k0c, k0d]) rfl ?_
          exact ⟨_, rfl, HB.out, _, _, rfl, isL_two.2 ⟨_, _, _, _, rfl, h0a, h0b⟩, rfl⟩
    · have h1' : decide (ln a.natAbs ≤ 256) = false := by simpa using h1
      have H1 := Hd.mk h1'
      clear e1 e2 hfb h h1 h1'
      go_enter Try.func133, Try.ntmps133
      go_upto_region 1 with fail
      obtain ⟨W0, hW0⟩ : ∃ W : World, W = (w.alloc (.cells #[u0, x0, y0, z0] 109)).alloc (.cells #[Value.bool false, Value.slice none 0 0, Value.bool false, Value.slice none 0 0] 58) := ⟨_, rfl⟩
      rw [← hW0]
      obtain ⟨he, hb⟩ := env_two (cp2 p0 q0) (cp2 (cp0 _) (cp0 _)) hW0
      have HE := Hd.mk he
      have HB := Hd.mk hb
      clear he hb hW0
      refine wp_region_vd 10 [4, 5, 6, 7, 8, 9, 10, 11, 12, 13] [0, 3, 4, 9] [] 70 [.bool false, .slice none 0 0] [isV (.pointer (some ⟨w.heap.size, 0, none⟩)), isZ a, isV (.bool false), isV (.bool true), isV (.bool true), SP.any, SP.any, SP.any, SP.any, isV (.bool true)] (by rfl) alloc_whole ?_ ?_
      · intro i hi hA aa wx hb hs hd
        match i, hi, hA with
        | 0, _, _ => exact .inl ⟨rfl, ⟨_, op_faS0 rfl (hs 1 rfl), rfl⟩⟩
        | 1, _, _ => exact .inl ⟨rfl, op_ldZz rfl rfl (hd 0 rfl) ((HE.out.to hb).get 0 rfl).a0⟩
        | 2, _, _ => exact .inl ⟨rfl, wp_b H1.out (op_call1 rfl rfl Try.call86 (rFits_got a _ _ (hd 1 rfl) (by omega)))⟩
        | 3, _, _ => exact .inl ⟨rfl, ⟨_, op_not rfl (hd 2 rfl), rfl⟩⟩
        | 4, _, _ => exact .inl ⟨rfl, op_mv rfl (hd 3 rfl)⟩
        | 5, _, _ => exact .inr ⟨⟨rfl, hd 4 rfl⟩, trivial⟩
        | 6, _, _ => exact .inr ⟨⟨rfl, hd 4 rfl⟩, trivial⟩
        | 7, _, _ => exact .inr ⟨⟨rfl, hd 4 rfl⟩, trivial⟩
        | 8, _, _ => exact .inr ⟨⟨rfl, hd 4 rfl⟩, trivial⟩
        | 9, _, _ => exact .inl ⟨rfl, ⟨_, op_pickT rfl (hd 4 rfl) rfl, rfl⟩⟩
        | i + 10, h, _ => omega
      · intro vs X1 hb hv hal hne
        replace HB := Hd.mk (bel_then HB.out hb)
        replace HE : Hd (Env X1 [⟨w.heap.size, 109, [zC a, zC b]⟩, ⟨w.heap.size + 1, 58, [zC 0, zC 0]⟩]) := ⟨HE.out.to hb⟩
        have e13 : vs 13 = .bool true := hv 9 (by decide) rfl
        simp only [putAll, List.foldl_cons, List.foldl_nil, Act.put, List.setIfInBounds_toArray, List.set_cons_succ, List.set_cons_zero, List.drop_succ_cons, List.drop_zero, e13]
        generalize vs 4 = s4
        generalize vs 5 = s5
        generalize vs 6 = s6
        generalize vs 7 = s7
        generalize vs 8 = s8
        generalize vs 9 = s9
        generalize vs 10 = s10
        generalize vs 11 = s11
        generalize vs 12 = s12
        clear hv hal hne hb
        go_upto_region 2 with fail
        refine wp_region_vd 1 [14] [0] [] 70 [.bool false, .slice none 0 0] [isL [zC 0, zC 0]] (by rfl) alloc_whole ?_ ?_
        · intro i hi hA aa wx hb hs hd
          match i, hi, hA with
          | 0, _, _ => exact .inl ⟨rfl, op_b0R rfl⟩
          | i + 1, h, _ => omega
        · intro vs X2 hb hv hal hne
          replace HB := Hd.mk (bel_then HB.out hb)
          replace HE : Hd (Env X2 [⟨w.heap.size, 109, [zC a, zC b]⟩, ⟨w.heap.size + 1, 58, [zC 0, zC 0]⟩]) := ⟨HE.out.to hb⟩
          have t14 : (isL [zC 0, zC 0]).p (vs 14) X2 := hv 0 (by decide) rfl
          obtain ⟨u14, y14, p14, q14, e14, c14, k14⟩ := isL_two.1 t14
          simp only [putAll, List.foldl_cons, List.foldl_nil, Act.put, List.setIfInBounds_toArray, List.set_cons_succ, List.set_cons_zero, List.drop_succ_cons, List.drop_zero, e14]
          refine wpList_st rfl rfl rfl rfl rfl (sto_R c14 k14 (HE.out.get 1 rfl)) ?_
          have HE' : Env (putAt (putAt X2 (w.heap.size + 1) 0 u14 y14) (w.heap.size + 1) 2 p14 q14) [⟨w.heap.size, 109, [zC a, zC b]⟩, ⟨w.heap.size + 1, 58, [zC 0, zC 0]⟩] := HE.out.put4 1 rfl c14 k14
          have HB' := below_put4 (u := u14) (v := y14) (u' := p14) (v' := q14) HB.out (show w.heap.size ≤ w.heap.size + 1 from by omega)
          generalize putAt (putAt X2 (w.heap.size + 1) 0 u14 y14) (w.heap.size + 1) 2 p14 q14 = X3 at *
          replace HE := Hd.mk HE'
          replace HB := Hd.mk HB'
          clear HE' HB'
          clear hv hal hne hb
          go_wp2_with fail
          obtain ⟨r0a, r0b, r0c, r0d, k0a, k0b, k0c, k0d, h0a, h0b⟩ := (HE.out.get 1 rfl).cells2
          refine bodyPost_ret (v := .tuple #[.agg #[r0a, r0b, r0c, r0d], .bool false]) (by simp [results, Try.results133, go_sem, k0a, k0b, k0c, k0d]) rfl ?_
          exact ⟨_, rfl, HB.out, _, _, rfl, isL_two.2 ⟨_, _, _, _, rfl, h0a, h0b⟩, rfl⟩
set_option maxRecDepth 100000 in
set_option maxHeartbeats 1000000 in
theorem rratio_got (a b : Int) (la : ln a.natAbs ≤ 100000) (lb : ln b.natAbs ≤ 100000) (v0 : Value) (w : World) (h0 : (isL [zC a, zC b]).p v0 w) :
    Calls Try.prog 110 #[v0] w (Got w (isP (isL [zC (fitn a b), zC (fitd a b)]) (isV (.int .i64 (fitc a b)))).p) := by
  obtain ⟨u0, x0, y0, z0, rfl, p0, q0⟩ := isL_two.1 h0
  clear h0
  by_cases h : fitb a b = true
  · have hfb : fitb a b = true := h
    have e3 : fitc a b = 0 := if_pos hfb
    rw [e3]
    have HFB := Hd.mk hfb
    clear e3 hfb h
    go_enter Try.func110, Try.ntmps110
    go_upto_region 1 with fail
    obtain ⟨W0, hW0⟩ : ∃ W : World, W = (w.alloc (.cells #[u0, x0, y0, z0] 109)).alloc (.cells #[Value.bool false, Value.slice none 0 0, Value.bool false, Value.slice none 0 0] 58) := ⟨_, rfl⟩
    rw [← hW0]
    obtain ⟨he, hb⟩ := env_two (cp2 p0 q0) (cp2 (cp0 _) (cp0 _)) hW0
    have HE := Hd.mk he
    have HB := Hd.mk hb
    clear he hb hW0
    refine wp_region_vd 6 [7, 8, 6, 9, 10, 4] [2, 3, 4] [5] 58 [.bool false, .slice none 0 0, .bool false, .slice none 0 0] [isL [zC a, zC b], isP (isL [zC (fitn a b), zC (fitd a b)]) (isV (.bool (fitb a b))), isP (isL [zC (fitn a b), zC (fitd a b)]) (isV (.bool (fitb a b))), isL [zC (fitn a b), zC (fitd a b)], isV (.bool true), SP.any] (by rfl) alloc_R ?_ ?_
    · intro i hi hA aa wx hb hs hd
      match i, hi, hA with
      | 0, _, _ => exact .inl ⟨rfl, op_ldS rfl rfl (hs 1 rfl) ((HE.out.to hb).get 0 rfl)⟩
      | 1, _, _ => exact .inl ⟨rfl, op_call1 rfl rfl Try.call133 (rRat_got a b (by omega) (by omega) _ _ (hd 0 rfl))⟩
      | 2, _, _ => exact .inl ⟨rfl, op_mv rfl (hd 1 rfl)⟩
      | 3, _, _ => exact .inl ⟨rfl, op_fst rfl (hd 2 rfl)⟩
      | 4, _, _ => exact .inl ⟨rfl, pure_b HFB.out (op_snd rfl (hd 2 rfl))⟩
      | 5, _, h => cases h
      | i + 6, h, _ => omega
    · intro vs X1 hb hv hal hne
      have HL0 := Hd.mk (HE.out.lt)
      have HBW := HB
      replace HB := Hd.mk (bel_then HB.out hb)
      replace HE : Hd (Env X1 [⟨w.heap.size, 109, [zC a, zC b]⟩, ⟨w.heap.size + 1, 58, [zC 0, zC 0]⟩]) := ⟨HE.out.to hb⟩
      obtain ⟨g4, e4, l4, b4⟩ : ∃ g, vs 4 = .pointer (some ⟨g, 0, none⟩) ∧ _ := hal 5 rfl
      have t9 : (isL [zC (fitn a b), zC (fitd a b)]).p (vs 9) X1 := hv 3 (by decide) rfl
      obtain ⟨u9, y9, p9, q9, e9, c9, k9⟩ := isL_two.1 t9
      have e10 : vs 10 = .bool true := hv 4 (by decide) rfl
      simp only [putAll, List.foldl_cons, List.foldl_nil, Act.put, List.setIfInBounds_toArray, List.set_cons_succ, List.set_cons_zero, List.drop_succ_cons, List.drop_zero, e4, e9, e10]
      generalize vs 7 = s7
      generalize vs 8 = s8
      generalize vs 6 = s6
      replace HE : Hd (Env X1 [⟨w.heap.size, 109, [zC a, zC b]⟩, ⟨w.heap.size + 1, 58, [zC 0, zC 0]⟩, ⟨g4, 58, [aC, aC]⟩]) := ⟨Env.addne (e := ⟨g4, 58, [aC, aC]⟩) HE.out ⟨_, b4, cp2 (cpz _) (cpz _)⟩ (fun e' he => Nat.ne_of_lt (Nat.lt_of_lt_of_le (HL0.out e' he) l4))⟩
      have G4 : Hd (w.heap.size ≤ g4) := ⟨Nat.le_trans HBW.out.size l4⟩
      clear l4 b4
      clear HL0 HBW e4
      refine wpList_st rfl rfl rfl rfl rfl (sto_R c9 k9 (HE.out.get 2 rfl)) ?_
      have HE' : Env (putAt (putAt X1 g4 0 u9 y9) g4 2 p9 q9) [⟨w.heap.size, 109, [zC a, zC b]⟩, ⟨w.heap.size + 1, 58, [zC 0, zC 0]⟩, ⟨g4, 58, [zC (fitn a b), zC (fitd a b)]⟩] := HE.out.put4 2 rfl c9 k9
      have HB' := below_put4 (u := u9) (v := y9) (u' := p9) (v' := q9) HB.out (show w.heap.size ≤ g4 from G4.out)
      generalize putAt (putAt X1 g4 0 u9 y9) g4 2 p9 q9 = X2 at *
      replace HE := Hd.mk HE'
      replace HB := Hd.mk HB'
      clear HE' HB'
      clear hv hal hne hb
      go_upto_region 2 with fail
      refine wp_region_vd 2 [11, 12] [0, 1] [] 70 [.bool false, .slice none 0 0] [isV (.bool true), isV (.bool false)] (by rfl) alloc_whole ?_ ?_
      · intro i hi hA aa wx hb hs hd
        match i, hi, hA with
        | 0, _, _ => exact .inl ⟨rfl, op_mv rfl (hs 5 rfl)⟩
        | 1, _, _ => exact .inl ⟨rfl, ⟨_, op_not rfl (hd 0 rfl), rfl⟩⟩
        | i + 2, h, _ => omega
      · intro vs X3 hb hv hal hne
        replace HB := Hd.mk (bel_then HB.out hb)
        replace HE : Hd (Env X3 [⟨w.heap.size, 109, [zC a, zC b]⟩, ⟨w.heap.size + 1, 58, [zC 0, zC 0]⟩, ⟨g4, 58, [zC (fitn a b), zC (fitd a b)]⟩]) := ⟨HE.out.to hb⟩
        have e12 : vs 12 = .bool false := hv 1 (by decide) rfl
        simp only [putAll, List.foldl_cons, List.foldl_nil, Act.put, List.setIfInBounds_toArray, List.set_cons_succ, List.set_cons_zero, List.drop_succ_cons, List.drop_zero, e12]
        generalize vs 11 = s11
        clear hv hal hne hb
        go_upto_region 4 with fail
        refine wp_region_vd 1 [14] [] [] 70 [.bool false, .slice none 0 0] [isL [zC (fitn a b), zC (fitd a b)]] (by rfl) alloc_whole ?_ ?_
        · intro i hi hA aa wx hb hs hd
          match i, hi, hA with
          | 0, _, _ => exact .inl ⟨rfl, op_ldR rfl rfl (hs 4 rfl) ((HE.out.to hb).get 2 rfl)⟩
          | i + 1, h, _ => omega
        · intro vs X4 hb hv hal hne
          replace HB := Hd.mk (bel_then HB.out hb)
          replace HE : Hd (Env X4 [⟨w.heap.size, 109, [zC a, zC b]⟩, ⟨w.heap.size + 1, 58, [zC 0, zC 0]⟩, ⟨g4, 58, [zC (fitn a b), zC (fitd a b)]⟩]) := ⟨HE.out.to hb⟩
          have t14 : (isL [zC (fitn a b), zC (fitd a b)]).p (vs 14) X4 := hv 0 (by decide) rfl
          obtain ⟨u14, y14, p14, q14, e14, c14, k14⟩ := isL_two.1 t14
          simp only [putAll, List.foldl_cons, List.foldl_nil, Act.put, List.setIfInBounds_toArray, List.set_cons_succ, List.set_cons_zero, List.drop_succ_cons, List.drop_zero, e14]
          refine wpList_st rfl rfl rfl rfl rfl (sto_R c14 k14 (HE.out.get 1 rfl)) ?_
          have HE' : Env (putAt (putAt X4 (w.heap.size + 1) 0 u14 y14) (w.heap.size + 1) 2 p14 q14) [⟨w.heap.size, 109, [zC a, zC b]⟩, ⟨w.heap.size + 1, 58, [zC (fitn a b), zC (fitd a b)]⟩, ⟨g4, 58, [zC (fitn a b), zC (fitd a b)]⟩] := HE.out.put4 1 rfl c14 k14
          have HB' := below_put4 (u := u14) (v := y14) (u' := p14) (v' := q14) HB.out (show w.heap.size ≤ w.heap.size + 1 from by omega)
          generalize putAt (putAt X4 (w.heap.size + 1) 0 u14 y14) (w.heap.size + 1) 2 p14 q14 = X5 at *
          replace HE := Hd.mk HE'
          replace HB := Hd.mk HB'
          clear HE' HB'
          clear hv hal hne hb
          go_wp2_with fail
          obtain ⟨r0a, r0b, r0c, r0d, k0a, k0b, k0c, k0d, h0a, h0b⟩ := (HE.out.get 1 rfl).cells2
          refine bodyPost_ret (v := .tuple #[.agg #[r0a, r0b, r0c, r0d], .int .i64 0]) (by simp [results, Try.results110, go_sem, k0a, k0b, k0c, k0d]) rfl ?_
          exact ⟨_, rfl, HB.out, _, _, rfl, isL_two.2 ⟨_, _, _, _, rfl, h0a, h0b⟩, rfl⟩
  · have hfb : fitb a b = false := by simpa using h
    have e1 : fitn a b = 0 := if_neg (by rw [hfb]; decide)
    have e2 : fitd a b = 0 := if_neg (by rw [hfb]; decide)
    have e3 : fitc a b = 5 := if_neg (by rw [hfb]; decide)
    rw [e1, e2, e3]
    have HFB := Hd.mk hfb
    clear hfb h e1 e2 e3
    go_enter Try.func110, Try.ntmps110
    go_upto_region 1 with fail
    obtain ⟨W0, hW0⟩ : ∃ W : World, W = (w.alloc (.cells #[u0, x0, y0, z0] 109)).alloc (.cells #[Value.bool false, Value.slice none 0 0, Value.bool false, Value.slice none 0 0] 58) := ⟨_, rfl⟩
    rw [← hW0]
    obtain ⟨he, hb⟩ := env_two (cp2 p0 q0) (cp2 (cp0 _) (cp0 _)) hW0
    have HE := Hd.mk he
    have HB := Hd.mk hb
    clear he hb hW0
    refine wp_region_vd 6 [7, 8, 6, 9, 10, 4] [2, 3, 4] [5] 58 [.bool false, .slice none 0 0, .bool false, .slice none 0 0] [isL [zC a, zC b], isP (isL [zC (fitn a b), zC (fitd a b)]) (isV (.bool (fitb a b))), isP (isL [zC (fitn a b), zC (fitd a b)]) (isV (.bool (fitb a b))), isL [zC (fitn a b), zC (fitd a b)], isV (.bool false), SP.any] (by rfl) alloc_R ?_ ?_
    · intro i hi hA aa wx hb hs hd
      match i, hi, hA with
      | 0, _, _ => exact .inl ⟨rfl, op_ldS rfl rfl (hs 1 rfl) ((HE.out.to hb).get 0 rfl)⟩
      | 1, _, _ => exact .inl ⟨rfl, op_call1 rfl rfl Try.call133 (rRat_got a b (by omega) (by omega) _ _ (hd 0 rfl))⟩
      | 2, _, _ => exact .inl ⟨rfl, op_mv rfl (hd 1 rfl)⟩
      | 3, _, _ => exact .inl ⟨rfl, op_fst rfl (hd 2 rfl)⟩
      | 4, _, _ => exact .inl ⟨rfl, pure_b HFB.out (op_snd rfl (hd 2 rfl))⟩
      | 5, _, h => cases h
      | i + 6, h, _ => omega
    · intro vs X1 hb hv hal hne
      have HL0 := Hd.mk (HE.out.lt)
      have HBW := HB
      replace HB := Hd.mk (bel_then HB.out hb)
      replace HE : Hd (Env X1 [⟨w.heap.size, 109, [zC a, zC b]⟩, ⟨w.heap.size + 1, 58, [zC 0, zC 0]⟩]) := ⟨HE.out.to hb⟩
      obtain ⟨g4, e4, l4, b4⟩ : ∃ g, vs 4 = .pointer (some ⟨g, 0, none⟩) ∧ _ := hal 5 rfl
      have t9 : (isL [zC (fitn a b), zC (fitd a b)]).p (vs 9) X1 := hv 3 (by decide) rfl
      obtain ⟨u9, y9, p9, q9, e9, c9, k9⟩ := isL_two.1 t9
      have e10 : vs 10 = .bool false := hv 4 (by decide) rfl
      simp only [putAll, List.foldl_cons, List.foldl_nil, Act.put, List.setIfInBounds_toArray, List.set_cons_succ, List.set_cons_zero, List.drop_succ_cons, List.drop_zero, e4, e9, e10]
      generalize vs 7 = s7
      generalize vs 8 = s8
      generalize vs 6 = s6
      replace HE : Hd (Env X1 [⟨w.heap.size, 109, [zC a, zC b]⟩, ⟨w.heap.size + 1, 58, [zC 0, zC 0]⟩, ⟨g4, 58, [aC, aC]⟩]) := ⟨Env.addne (e := ⟨g4, 58, [aC, aC]⟩) HE.out ⟨_, b4, cp2 (cpz _) (cpz _)⟩ (fun e' he => Nat.ne_of_lt (Nat.lt_of_lt_of_le (HL0.out e' he) l4))⟩
      have G4 : Hd (w.heap.size ≤ g4) := ⟨Nat.le_trans HBW.out.size l4⟩
      clear l4 b4
      clear HL0 HBW e4
      refine wpList_st rfl rfl rfl rfl rfl (sto_R c9 k9 (HE.out.get 2 rfl)) ?_
      have HE' : Env (putAt (putAt X1 g4 0 u9 y9) g4 2 p9 q9) [⟨w.heap.size, 109, [zC a, zC b]⟩, ⟨w.heap.size + 1, 58, [zC 0, zC 0]⟩, ⟨g4, 58, [zC (fitn a b), zC (fitd a b)]⟩] := HE.out.put4 2 rfl c9 k9
      have HB' := below_put4 (u := u9) (v := y9) (u' := p9) (v' := q9) HB.out (show w.heap.size ≤ g4 from G4.out)
      generalize putAt (putAt X1 g4 0 u9 y9) g4 2 p9 q9 = X2 at *
      replace HE := Hd.mk HE'
      replace HB := Hd.mk HB'
      clear HE' HB'
      clear hv hal hne hb
      go_upto_region 2 with fail
      refine wp_region_vd 2 [11, 12] [0, 1] [] 70 [.bool false, .slice none 0 0] [isV (.bool false), isV (.bool true)] (by rfl) alloc_whole ?_ ?_
      · intro i hi hA aa wx hb hs hd
        match i, hi, hA with
        | 0, _, _ => exact .inl ⟨rfl, op_mv rfl (hs 5 rfl)⟩
        | 1, _, _ => exact .inl ⟨rfl, ⟨_, op_not rfl (hd 0 rfl), rfl⟩⟩
        | i + 2, h, _ => omega
      · intro vs X3 hb hv hal hne
        replace HB := Hd.mk (bel_then HB.out hb)
        replace HE : Hd (Env X3 [⟨w.heap.size, 109, [zC a, zC b]⟩, ⟨w.heap.size + 1, 58, [zC 0, zC 0]⟩, ⟨g4, 58, [zC (fitn a b), zC (fitd a b)]⟩]) := ⟨HE.out.to hb⟩
        have e12 : vs 12 = .bool true := hv 1 (by decide) rfl
        simp only [putAll, List.foldl_cons, List.foldl_nil, Act.put, List.setIfInBounds_toArray, List.set_cons_succ, List.set_cons_zero, List.drop_succ_cons, List.drop_zero, e12]
        generalize vs 11 = s11
        clear hv hal hne hb
        go_upto_region 3 with fail
        refine wp_region_vd 1 [13] [0] [] 70 [.bool false, .slice none 0 0] [isL [zC 0, zC 0]] (by rfl) alloc_whole ?_ ?_
        · intro i hi hA aa wx hb hs hd
          match i, hi, hA with
          | 0, _, _ => exact .inl ⟨rfl, op_b0R rfl⟩
          | i + 1, h, _ => omega
        · intro vs X4 hb hv hal hne
          replace HB := Hd.mk (bel_then HB.out hb)
          replace HE : Hd (Env X4 [⟨w.heap.size, 109, [zC a, zC b]⟩, ⟨w.heap.size + 1, 58, [zC 0, zC 0]⟩, ⟨g4, 58, [zC (fitn a b), zC (fitd a b)]⟩]) := ⟨HE.out.to hb⟩
          have t13 : (isL [zC 0, zC 0]).p (vs 13) X4 := hv 0 (by decide) rfl
          obtain ⟨u13, y13, p13, q13, e13, c13, k13⟩ := isL_two.1 t13
          simp only [putAll, List.foldl_cons, List.foldl_nil, Act.put, List.setIfInBounds_toArray, List.set_cons_succ, List.set_cons_zero, List.drop_succ_cons, List.drop_zero, e13]
          refine wpList_st rfl rfl rfl rfl rfl (sto_R c13 k13 (HE.out.get 1 rfl)) ?_
          have HE' : Env (putAt (putAt X4 (w.heap.size + 1) 0 u13 y13) (w.heap.size + 1) 2 p13 q13) [⟨w.heap.size, 109, [zC a, zC b]⟩, ⟨w.heap.size + 1, 58, [zC 0, zC 0]⟩, ⟨g4, 58, [zC (fitn a b), zC (fitd a b)]⟩] := HE.out.put4 1 rfl c13 k13
          have HB' := below_put4 (u := u13) (v := y13) (u' := p13) (v' := q13) HB.out (show w.heap.size ≤ w.heap.size + 1 from by omega)
          generalize putAt (putAt X4 (w.heap.size + 1) 0 u13 y13) (w.heap.size + 1) 2 p13 q13 = X5 at *
          replace HE := Hd.mk HE'
          replace HB := Hd.mk HB'
          clear HE' HB'
          clear hv hal hne hb
          go_wp2_with fail
          obtain ⟨r0a, r0b, r0c, r0d, k0a, k0b, k0c, k0d, h0a, h0b⟩ := (HE.out.get 1 rfl).cells2
          refine bodyPost_ret (v := .tuple #[.agg #[r0a, r0b, r0c, r0d], .int .i64 5]) (by simp [results, Try.results110, go_sem, k0a, k0b, k0c, k0d]) rfl ?_
          exact ⟨_, rfl, HB.out, _, _, rfl, isL_two.2 ⟨_, _, _, _, rfl, h0a, h0b⟩, rfl⟩
end Go.Proofs.Ytcjcpfafalkceaa
