/- Part 32 of the texts behind this claim. -/
import Derived.Test.YtcjcpfafalkceaaFq31
set_option linter.unusedVariables false
set_option linter.unusedSimpArgs false
namespace Go.Proofs.Ytcjcpfafalkceaa
open Go.RowKit
def rdz (f g : RQ) : Bool := (f.ok && g.ok) && decide (g.n.val = 0)
def rdn (f g : RQ) : Int := if rdz f g = true then 0 else rqn f g (f.n.val * g.d.val) (f.d.val * g.n.val)
def rdd (f g : RQ) : Int := if rdz f g = true then 0 else rqd f g (f.n.val * g.d.val) (f.d.val * g.n.val)
def rde (f g : RQ) : Int := if rdz f g = true then 4 else rqe f g (f.n.val * g.d.val) (f.d.val * g.n.val)
def rcn (f g : RQ) : Int := if (f.ok && g.ok) = true then sgnv (f.n.val * g.d.val - g.n.val * f.d.val) else 0
def rce (f g : RQ) : Int := if (f.ok && g.ok) = true then 0 else 2
def rfn (f : RQ) : Int := if f.ok = true then f.n.val / f.d.val else 0
def rfe (f : RQ) : Int := if f.ok = true then 0 else 2
set_option maxRecDepth 100000 in
set_option maxHeartbeats 1000000 in
theorem RatDiv_got (f g : RQ) (v0 v1 : Value) (w : World) (h0 : (isL [rC f.n, rC f.d]).p v0 w) (h1 : (isL [rC g.n, rC g.d]).p v1 w) :
    Calls Try.prog 53 #[v0, v1] w (Got w (isP (isL [zC (rdn f g), zC (rdd f g)]) (isV (.int .i64 (rde f g)))).p) := by
  obtain ⟨u0, x0, y0, z0, rfl, p0, q0⟩ := isL_two.1 h0
  obtain ⟨u1, x1, y1, z1, rfl, p1, q1⟩ := isL_two.1 h1
  clear h0 h1
  by_cases hok : (f.ok && g.ok) = true
  · by_cases h0 : g.n.val = 0
    · have hf : f.ok = true := by simp at hok; exact hok.1
      have hg : g.ok = true := by simp at hok; exact hok.2
      obtain ⟨l1, l2⟩ := ok_lens hf p0 q0
      obtain ⟨l3, l4⟩ := ok_lens hg p1 q1
      have HOf := Hd.mk hf
      have HOg := Hd.mk hg
      have HB0 : Hd (f.d.val ≠ 0) := ⟨by have := RQ.ok_pos hf; omega⟩
      have HD0 : Hd (g.d.val ≠ 0) := ⟨by have := RQ.ok_pos hg; omega⟩
      have HOK : Hd ([f, g].all RQ.ok = true) := ⟨by rw [all_rq2]; exact hok⟩
      have hz : rdz f g = true := by unfold rdz; rw [hok, decide_eq_true h0]; rfl
      have e1 : rdn f g = 0 := if_pos hz
      have e2 : rdd f g = 0 := if_pos hz
      have e3 : rde f g = 4 := if_pos hz
      rw [e1, e2, e3]
      clear e1 e2 e3
      have HZ := Hd.mk (decide_eq_true h0)
      clear hz hok hf hg h0
      go_enter Try.func53, Try.ntmps53
      go_upto_region 1 with fail
      obtain ⟨W0, hW0⟩ : ∃ W : World, W = ((w.alloc (.cells #[u0, x0, y0, z0] 58)).alloc (.cells #[u1, x1, y1, z1] 58)).alloc (.cells #[Value.bool false, Value.slice none 0 0, Value.bool false, Value.slice none 0 0] 58) := ⟨_, rfl⟩
      rw [← hW0]
      obtain ⟨he, hb⟩ := env_three (cp2 p0 q0) (cp2 p1 q1) (cp2 (cp0 _) (cp0 _)) hW0
      have HE := Hd.mk he
      have HB := Hd.mk hb
      clear he hb hW0
      refine wp_region_vd 9 [6, 7, 8, 9, 10, 11, 12, 13, 14] [4, 8] [] 70 [.bool false, .slice none 0 0] [isL [rC f.n, rC f.d], isL [rC g.n, rC g.d], isRats [f, g], isV (.bool true), isV (.bool true), isL [rC g.n, rC g.d], isL [zC g.n.val, zC g.d.val], isV (.bool true), isV (.bool true)] (by rfl) alloc_whole ?_ ?_
      · intro i hi hA aa wx hb hs hd
        match i, hi, hA with
        | 0, _, _ => exact .inl ⟨rfl, op_ldR rfl rfl (hs 2 rfl) ((HE.out.to hb).get 0 rfl)⟩
        | 1, _, _ => exact .inl ⟨rfl, op_ldR rfl rfl (hs 3 rfl) ((HE.out.to hb).get 1 rfl)⟩
        | 2, _, _ => exact .inl ⟨rfl, op_bsR2 rfl rfl (hd 0 rfl) (hd 1 rfl)⟩
        | 3, _, _ => exact .inl ⟨rfl, wp_b HOK.out (op_call1 rfl rfl Try.call102 (validRats_got [f, g] (by show 2 ≤ 2; omega) _ _ (hd 2 rfl)))⟩
        | 4, _, _ => exact .inl ⟨rfl, op_mv rfl (hd 3 rfl)⟩
        | 5, _, _ => exact .inl ⟨⟨rfl, hd 4 rfl⟩, op_ldR rfl rfl (hs 3 rfl) ((HE.out.to hb).get 1 rfl)⟩
        | 6, _, _ => exact .inl ⟨⟨rfl, hd 4 rfl⟩, op_call1 rfl rfl Try.call103 (ratOf_got g HOg.out _ _ (hd 5 rfl))⟩
        | 7, _, _ => exact .inl ⟨⟨rfl, hd 4 rfl⟩, wp_b HZ.out (op_call1 rfl rfl Try.call104 (qzero_got g.n.val g.d.val (by omega) (by omega) _ _ (hd 6 rfl)))⟩
        | 8, _, _ => exact .inl ⟨rfl, ⟨_, op_pickT rfl (hd 4 rfl) (hd 7 rfl), rfl⟩⟩
        | i + 9, h, _ => omega
      · intro vs X1 hb hv hal hne
        replace HB := Hd.mk (bel_then HB.out hb)
        replace HE : Hd (Env X1 [⟨w.heap.size, 58, [rC f.n, rC f.d]⟩, ⟨w.heap.size + 1, 58, [rC g.n, rC g.d]⟩, ⟨w.heap.size + 1 + 1, 58, [zC 0, zC 0]⟩]) := ⟨HE.out.to hb⟩
        have e14 : vs 14 = .bool true := hv 8 (by decide) rfl
        simp only [putAll, List.foldl_cons, List.foldl_nil, Act.put, List.setIfInBounds_toArray, List.set_cons_succ, List.set_cons_zero, List.drop_succ_cons, List.drop_zero, e14]
        generalize vs 6 = s6
        generalize vs 7 = s7
        generalize vs 8 = s8
        generalize vs 9 = s9
        generalize vs 10 = s10
        generalize vs 11 = s11
        generalize vs 12 = s12
        generalize vs 13 = s13
        clear hv hal hne hb
        go_upto_region 2 with fail
        refine wp_region_vd 1 [15] [0] [] 70 [.bool false, .slice none 0 0] [isL [zC 0, zC 0]] (by rfl) alloc_whole ?_ ?_
        · intro i hi hA aa wx hb hs hd
          match i, hi, hA with
          | 0, _, _ => exact .inl ⟨rfl, op_b0R rfl⟩
          | i + 1, h, _ => omega
        · intro vs X2 hb hv hal hne
          replace HB := Hd.mk (bel_then HB.out hb)
          replace HE : Hd (Env X2 [⟨w.heap.size, 58, [rC f.n, rC f.d]⟩, ⟨w.heap.size + 1, 58, [rC g.n, rC g.d]⟩, ⟨w.heap.size + 1 + 1, 58, [zC 0, zC 0]⟩]) := ⟨HE.out.to hb⟩
          have t15 : (isL [zC 0, zC 0]).p (vs 15) X2 := hv 0 (by decide) rfl
          obtain ⟨u15, y15, p15, q15, e15, c15, k15⟩ := isL_two.1 t15
          simp only [putAll, List.foldl_cons, List.foldl_nil, Act.put, List.setIfInBounds_toArray, List.set_cons_succ, List.set_cons_zero, List.drop_succ_cons, List.drop_zero, e15]
          refine wpList_st rfl rfl rfl rfl rfl (sto_R c15 k15 (HE.out.get 2 rfl)) ?_
          have HE' : Env (putAt (putAt X2 (w.heap.size + 1 + 1) 0 u15 y15) (w.heap.size + 1 + 1) 2 p15 q15) [⟨w.heap.size, 58, [rC f.n, rC f.d]⟩, ⟨w.heap.size + 1, 58, [rC g.n, rC g.d]⟩, ⟨w.heap.size + 1 + 1, 58, [zC 0, zC 0]⟩] := HE.out.put4 2 rfl c15 k15
          have HB' := below_put4 (u := u15) (v := y15) (u' := p15) (v' := q15) HB.out (show w.heap.size ≤ w.heap.size + 1 + 1 from by omega)
          generalize putAt (putAt X2 (w.heap.size + 1 + 1) 0 u15 y15) (w.heap.size + 1 + 1) 2 p15 q15 = X3 at *
          replace HE := Hd.mk HE'
          replace HB := Hd.mk HB'
          clear HE' HB'
          clear hv hal hne hb
          go_wp2_with fail
          obtain ⟨r0a, r0b, r0c, r0d, k0a, k0b, k0c, k0d, h0a, h0b⟩ := (HE.out.get 2 rfl).cells2
          refine bodyPost_ret (v := .tuple #[.agg #[r0a, r0b, r0c, r0d], .int .i64 4]) (by simp [results, Try.results53, go_sem, k0a, k0b, k0c, k0d]) rfl ?_
          exact ⟨_, rfl, HB.out, _, _, rfl, isL_two.2 ⟨_, _, _, _, rfl, h0a, h0b⟩, rfl⟩
    · have hf : f.ok = true := by simp at hok; exact hok.1
      have hg : g.ok = true := by simp at hok; exact hok.2
      obtain ⟨l1, l2⟩ := ok_lens hf p0 q0
      obtain ⟨l3, l4⟩ := ok_lens hg p1 q1
      have HOf := Hd.mk hf
      have HOg := Hd.mk hg
      have HB0 : Hd (f.d.val ≠ 0) := ⟨by have := RQ.ok_pos hf; omega⟩
      have HD0 : Hd (g.d.val ≠ 0) := ⟨by have := RQ.ok_pos hg; omega⟩
      have HOK : Hd ([f, g].all RQ.ok = true) := ⟨by rw [all_rq2]; exact hok⟩
      have hz : ¬ rdz f g = true := by unfold rdz; rw [hok, decide_eq_false h0]; decide
      have e1 : rdn f g = rqn f g (f.n.val * g.d.val) (f.d.val * g.n.val) := if_neg hz
      have e2 : rdd f g = rqd f g (f.n.val * g.d.val) (f.d.val * g.n.val) := if_neg hz
      have e3 : rde f g = rqe f g (f.n.val * g.d.val) (f.d.val * g.n.val) := if_neg hz
      rw [e1, e2, e3]
      clear e1 e2 e3
      have HCC : Hd ((f.ok && g.ok) = true → g.n.val ≠ 0) := ⟨fun _ => h0⟩
      have HC0 := Hd.mk h0
      have HZ := Hd.mk (decide_eq_false h0)
      clear hz hf hg h0
      clear hok
      go_enter Try.func53, Try.ntmps53
      go_upto_region 1 with fail
      obtain ⟨W0, hW0⟩ : ∃ W : World, W = ((w.alloc (.cells #[u0, x0, y0, z0] 58)).alloc (.cells #[u1, x1, y1, z1] 58)).alloc (.cells #[Value.bool false, Value.slice none 0 0, Value.bool false, Value.slice none 0 0] 58) := ⟨_, rfl⟩
      rw [← hW0]
      obtain ⟨he, hb⟩ := env_three (cp2 p0 q0) (cp2 p1 q1) (cp2 (cp0 _) (cp0 _)) hW0
      have HE := Hd.mk he
      have HB := Hd.mk hb
      clear he hb hW0
      refine wp_region_vd 9 [6, 7, 8, 9, 10, 11, 12, 13, 14] [4, 8] [] 70 [.bool false, .slice none 0 0] [isL [rC f.n, rC f.d], isL [rC g.n, rC g.d], isRats [f, g], isV (.bool true), isV (.bool true), isL [rC g.n, rC g.d], isL [zC g.n.val, zC g.d.val], isV (.bool false), isV (.bool false)] (by rfl) alloc_whole ?_ ?_
      · intro i hi hA aa wx hb hs hd
        match i, hi, hA with
        | 0, _, _ => exact .inl ⟨rfl, op_ldR rfl rfl (hs 2 rfl) ((HE.out.to hb).get 0 rfl)⟩
        | 1, _, _ => exact .inl ⟨rfl, op_ldR rfl rfl (hs 3 rfl) ((HE.out.to hb).get 1 rfl)⟩
        | 2, _, _ => exact .inl ⟨rfl, op_bsR2 rfl rfl (hd 0 rfl) (hd 1 rfl)⟩
        | 3, _, _ => exact .inl ⟨rfl, wp_b HOK.out (op_call1 rfl rfl Try.call102 (validRats_got [f, g] (by show 2 ≤ 2; omega) _ _ (hd 2 rfl)))⟩
        | 4, _, _ => exact .inl ⟨rfl, op_mv rfl (hd 3 rfl)⟩
        | 5, _, _ => exact .inl ⟨⟨rfl, hd 4 rfl⟩, op_ldR rfl rfl (hs 3 rfl) ((HE.out.to hb).get 1 rfl)⟩
        | 6, _, _ => exact .inl ⟨⟨rfl, hd 4 rfl⟩, op_call1 rfl rfl Try.call103 (ratOf_got g HOg.out _ _ (hd 5 rfl))⟩
        | 7, _, _ => exact .inl ⟨⟨rfl, hd 4 rfl⟩, wp_b HZ.out (op_call1 rfl rfl Try.call104 (qzero_got g.n.val g.d.val (by omega) (by omega) _ _ (hd 6 rfl)))⟩
        | 8, _, _ => exact .inl ⟨rfl, ⟨_, op_pickT rfl (hd 4 rfl) (hd 7 rfl), rfl⟩⟩
        | i + 9, h, _ => omega
      · intro vs X1 hb hv hal hne
        replace HB := Hd.mk (bel_then HB.out hb)
        replace HE : Hd (Env X1 [⟨w.heap.size, 58, [rC f.n, rC f.d]⟩, ⟨w.heap.size + 1, 58, [rC g.n, rC g.d]⟩, ⟨w.heap.size + 1 + 1, 58, [zC 0, zC 0]⟩]) := ⟨HE.out.to hb⟩
        have e14 : vs 14 = .bool false := hv 8 (by decide) rfl
        simp only [putAll, List.foldl_cons, List.foldl_nil, Act.put, List.setIfInBounds_toArray, List.set_cons_succ, List.set_cons_zero, List.drop_succ_cons, List.drop_zero, e14]
        generalize vs 6 = s6
        generalize vs 7 = s7
        generalize vs 8 = s8
        generalize vs 9 = s9
        generalize vs 10 = s10
        generalize vs 11 = s11
        generalize vs 12 = s12
        generalize vs 13 = s13
        clear hv hal hne hb
        go_upto_region 3 with fail
        refine wp_region_vd 5 [16, 17, 18, 19, 20] [3, 4] [] 70 [.bool false, .slice none 0 0] [isL [rC f.n, rC f.d], isL [rC g.n, rC g.d], isP (isL [zC (rqn f g (f.n.val * g.d.val) (f.d.val * g.n.val)), zC (rqd f g (f.n.val * g.d.val) (f.d.val * g.n.val))]) (isV (.int .i64 (rqe f g (f.n.val * g.d.val) (f.d.val * g.n.val)))), isL [zC (rqn f g (f.n.val * g.d.val) (f.d.val * g.n.val)), zC (rqd f g (f.n.val * g.d.val) (f.d.val * g.n.val))], isV (.int .i64 (rqe f g (f.n.val * g.d.val) (f.d.val * g.n.val)))] (by rfl) alloc_whole ?_ ?_
        · intro i hi hA aa wx hb hs hd
          match i, hi, hA with
          | 0, _, _ => exact .inl ⟨rfl, op_ldR rfl rfl (hs 2 rfl) ((HE.out.to hb).get 0 rfl)⟩
          | 1, _, _ => exact .inl ⟨rfl, op_ldR rfl rfl (hs 3 rfl) ((HE.out.to hb).get 1 rfl)⟩
          | 2, _, _ => exact .inl ⟨rfl, op_call3 rfl rfl Try.call99 (twodiv_got f g HCC.out _ _ _ (hd 0 rfl) (hd 1 rfl))⟩
          | 3, _, _ => exact .inl ⟨rfl, op_fst rfl (hd 2 rfl)⟩
          | 4, _, _ => exact .inl ⟨rfl, op_snd rfl (hd 2 rfl)⟩
          | i + 5, h, _ => omega
        · intro vs X2 hb hv hal hne
          replace HB := Hd.mk (bel_then HB.out hb)
          replace HE : Hd (Env X2 [⟨w.heap.size, 58, [rC f.n, rC f.d]⟩, ⟨w.heap.size + 1, 58, [rC g.n, rC g.d]⟩, ⟨w.heap.size + 1 + 1, 58, [zC 0, zC 0]⟩]) := ⟨HE.out.to hb⟩
          have t19 : (isL [zC (rqn f g (f.n.val * g.d.val) (f.d.val * g.n.val)), zC (rqd f g (f.n.val * g.d.val) (f.d.val * g.n.val))]).p (vs 19) X2 := hv 3 (by decide) rfl
          obtain ⟨u19, y19, p19, q19, e19, c19, k19⟩ := isL_two.1 t19
          have e20 : vs 20 = .int .i64 (rqe f g (f.n.val * g.d.val) (f.d.val * g.n.val)) := hv 4 (by decide) rfl
          simp only [putAll, List.foldl_cons, List.foldl_nil, Act.put, List.setIfInBounds_toArray, List.set_cons_succ, List.set_cons_zero, List.drop_succ_cons, List.drop_zero, e19, e20]
          generalize vs 16 = s16
          generalize vs 17 = s17
          generalize vs 18 = s18
          refine wpList_st rfl rfl rfl rfl rfl (sto_R c19 k19 (HE.out.get 2 rfl)) ?_
          have HE' : Env (putAt (putAt X2 (w.heap.size + 1 + 1) 0 u19 y19) (w.heap.size + 1 + 1) 2 p19 q19) [⟨w.heap.size, 58, [rC f.n, rC f.d]⟩, ⟨w.heap.size + 1, 58, [rC g.n, rC g.d]⟩, ⟨w.heap.size + 1 + 1, 58, [zC (rqn f g (f.n.val * g.d.val) (f.d.val * g.n.val)), zC (rqd f g (f.n.val * g.d.val) (f.d.val * g.n.val))]⟩] := HE.out.put4 2 rfl c19 k19
          have HB' := below_put4 (u := u19) (v := y19) (u' := p19) (v' := q19) HB.out (show w.heap.size ≤ w.heap.size + 1 + 1 from by omega)
          generalize putAt (putAt X2 (w.heap.size + 1 + 1) 0 u19 y19) (w.heap.size + 1 + 1) 2 p19 q19 = X3 at *
          replace HE := Hd.mk HE'
          replace HB := Hd.mk HB'
          clear HE' HB'
          clear hv hal hne hb
          go_wp2_with fail
          obtain ⟨r0a, r0b, r0c, r0d, k0a, k0b, k0c, k0d, h0a, h0b⟩ := (HE.out.get 2 rfl).cells2
          refine bodyPost_ret (v := .tuple #[.agg #[r0a, r0b, r0c, r0d], .int .i64 (rqe f g (f.n.val * g.d.val) (f.d.val * g.n.val))]) (by simp [results, Try.results53, go_sem, k0a, k0b, k0c, k0d]) rfl ?_
          exact ⟨_, rfl, HB.out, _, _, rfl, isL_two.2 ⟨_, _, _, _, rfl, h0a, h0b⟩, rfl⟩
  · have hno : (f.ok && g.ok) = false := by simpa using hok
    have HOK : Hd ([f, g].all RQ.ok = false) := ⟨by rw [all_rq2]; exact hno⟩
    have hz : ¬ rdz f g = true := by unfold rdz; rw [hno]; simp
    have e1 : rdn f g = rqn f g (f.n.val * g.d.val) (f.d.val * g.n.val) := if_neg hz
    have e2 : rdd f g = rqd f g (f.n.val * g.d.val) (f.d.val * g.n.val) := if_neg hz
    have e3 : rde f g = rqe f g (f.n.val * g.d.val) (f.d.val * g.n.val) := if_neg hz
    rw [e1, e2, e3]
    clear e1 e2 e3
    have HCC : Hd ((f.ok && g.ok) = true → g.n.val ≠ 0) := ⟨fun h => absurd h hok⟩
    clear hz hno hok
    go_enter Try.func53, Try.ntmps53
    go_upto_region 1 with fail
    obtain ⟨W0, hW0⟩ : ∃ W : World, W = ((w.alloc (.cells #[u0, x0, y0, z0] 58)).alloc (.cells #[u1, x1, y1, z1] 58)).alloc (.cells #[Value.bool false, Value.slice none 0 0, Value.bool false, Value.slice none 0 0] 58) := ⟨_, rfl⟩
    rw [← hW0]
    obtain ⟨he, hb⟩ := env_three (cp2 p0 q0) (cp2 p1 q1) (cp2 (cp0 _) (cp0 _)) hW0
    have HE := Hd.mk he
    have HB := Hd.mk hb
    clear he hb hW0
    refine wp_region_vd 9 [6, 7, 8, 9, 10, 11, 12, 13, 14] [4, 8] [] 70 [.bool false, .slice none 0 0] [isL [rC f.n, rC f.d], isL [rC g.n, rC g.d], isRats [f, g], isV (.bool false), isV (.bool false), SP.any, SP.any, SP.any, isV (.bool false)] (by rfl) alloc_whole ?_ ?_
    · intro i hi hA aa wx hb hs hd
      match i, hi, hA with
      | 0, _, _ => exact .inl ⟨rfl, op_ldR rfl rfl (hs 2 rfl) ((HE.out.to hb).get 0 rfl)⟩
      | 1, _, _ => exact .inl ⟨rfl, op_ldR rfl rfl (hs 3 rfl) ((HE.out.to hb).get 1 rfl)⟩
      | 2, _, _ => exact .inl ⟨rfl, op_bsR2 rfl rfl (hd 0 rfl) (hd 1 rfl)⟩
      | 3, _, _ => exact .inl ⟨rfl, wp_b HOK.out (op_call1 rfl rfl Try.call102 (validRats_got [f, g] (by show 2 ≤ 2; omega) _ _ (hd 2 rfl)))⟩
      | 4, _, _ => exact .inl ⟨rfl, op_mv rfl (hd 3 rfl)⟩
      | 5, _, _ => exact .inr ⟨⟨rfl, hd 4 rfl⟩, trivial⟩
      | 6, _, _ => exact .inr ⟨⟨rfl, hd 4 rfl⟩, trivial⟩
      | 7, _, _ => exact .inr ⟨⟨rfl, hd 4 rfl⟩, trivial⟩
      | 8, _, _ => exact .inl ⟨rfl, ⟨_, op_pickF rfl (hd 4 rfl) rfl, rfl⟩⟩
      | i + 9, h, _ => omega
    · intro vs X1 hb hv hal hne
      replace HB := Hd.mk (bel_then HB.out hb)
      replace HE : Hd (Env X1 [⟨w.heap.size, 58, [rC f.n, rC f.d]⟩, ⟨w.heap.size + 1, 58, [rC g.n, rC g.d]⟩, ⟨w.heap.size + 1 + 1, 58, [zC 0, zC 0]⟩]) := ⟨HE.out.to hb⟩
      have e14 : vs 14 = .bool false := hv 8 (by decide) rfl
      simp only [putAll, List.foldl_cons, List.foldl_nil, Act.put, List.setIfInBounds_toArray, List.set_cons_succ, List.set_cons_zero, List.drop_succ_cons, List.drop_zero, e14]
      generalize vs 6 = s6
      generalize vs 7 = s7
      generalize vs 8 = s8
      generalize vs 9 = s9
      generalize vs 10 = s10
      generalize vs 11 = s11
      generalize vs 12 = s12
      generalize vs 13 = s13
      clear hv hal hne hb
      go_upto_region 3 with fail
      refine wp_region_vd 5 [16, 17, 18, 19, 20] [3, 4] [] 70 [.bool false, .slice none 0 0] [isL [rC f.n, rC f.d], isL [rC g.n, rC g.d], isP (isL [zC (rqn f g (f.n.val * g.d.val) (f.d.val * g.n.val)), zC (rqd f g (f.n.val * g.d.val) (f.d.val * g.n.val))]) (isV (.int .i64 (rqe f g (f.n.val * g.d.val) (f.d.val * g.n.val)))), isL [zC (rqn f g (f.n.val * g.d.val) (f.d.val * g.n.val)), zC (rqd f g (f.n.val * g.d.val) (f.d.val * g.n.val))], isV (.int .i64 (rqe f g (f.n.val * g.d.val) (f.d.val * g.n.val)))] (by rfl) alloc_whole ?_ ?_
      · intro i hi hA aa wx hb hs hd
        match i, hi, hA with
        | 0, _, _ => exact .inl ⟨rfl, op_ldR rfl rfl (hs 2 rfl) ((HE.out.to hb).get 0 rfl)⟩
        | 1, _, _ => exact .inl ⟨rfl, op_ldR rfl rfl (hs 3 rfl) ((HE.out.to hb).get 1 rfl)⟩
        | 2, _, _ => exact .inl ⟨rfl, op_call3 rfl rfl Try.call99 (twodiv_got f g HCC.out _ _ _ (hd 0 rfl) (hd 1 rfl))⟩
        | 3, _, _ => exact .inl ⟨rfl, op_fst rfl (hd 2 rfl)⟩
        | 4, _, _ => exact .inl ⟨rfl, op_snd rfl (hd 2 rfl)⟩
        | i + 5, h, _ => omega
      · intro vs X2 hb hv hal hne
        replace HB := Hd.mk (bel_then HB.out hb)
        replace HE : Hd (Env X2 [⟨w.heap.size, 58, [rC f.n, rC f.d]⟩, ⟨w.heap.size + 1, 58, [rC g.n, rC g.d]⟩, ⟨w.heap.size + 1 + 1, 58, [zC 0, zC 0]⟩]) := ⟨HE.out.to hb⟩
        have t19 : (isL [zC (rqn f g (f.n.val * g.d.val) (f.d.val * g.n.val)), zC (rqd f g (f.n.val * g.d.val) (f.d.val * g.n.val))]).p (vs 19) X2 := hv 3 (by decide) rfl
        obtain ⟨u19, y19, p19, q19, e19, c19, k19⟩ := isL_two.1 t19
        have e20 : vs 20 = .int .i64 (rqe f g (f.n.val * g.d.val) (f.d.val * g.n.val)) := hv 4 (by decide) rfl
        simp only [putAll, List.foldl_cons, List.foldl_nil, Act.put, List.setIfInBounds_toArray, List.set_cons_succ, List.set_cons_zero, List.drop_succ_cons, List.drop_zero, e19, e20]
        generalize vs 16 = s16
        generalize vs 17 = s17
        generalize vs 18 = s18
        refine wpList_st rfl rfl rfl rfl rfl (sto_R c19 k19 (HE.out.get 2 rfl)) ?_
        have HE' : Env (putAt (putAt X2 (w.heap.size + 1 + 1) 0 u19 y19) (w.heap.size + 1 + 1) 2 p19 q19) [⟨w.heap.size, 58, [rC f.n, rC f.d]⟩, ⟨w.heap.size + 1, 58, [rC g.n, rC g.d]⟩, ⟨w.heap.size + 1 + 1, 58, [zC (rqn f g (f.n.val * g.d.val) (f.d.val * g.n.val)), zC (rqd f g (f.n.val * g.d.val) (f.d.val * g.n.val))]⟩] := HE.out.put4 2 rfl c19 k19
        have HB' := below_put4 (u := u19) (v := y19) (u' := p19) (v' := q19) HB.out (show w.heap.size ≤ w.heap.size + 1 + 1 from by omega)
        generalize putAt (putAt X2 (w.heap.size + 1 + 1) 0 u19 y19) (w.heap.size + 1 + 1) 2 p19 q19 = X3 at *
        replace HE := Hd.mk HE'
        replace HB := Hd.mk HB'
        clear HE' HB'
        clear hv hal hne hb
        go_wp2_with fail
        obtain ⟨r0a, r0b, r0c, r0d, k0a, k0b, k0c, k0d, h0a, h0b⟩ := (HE.out.get 2 rfl).cells2
        refine bodyPost_ret (v := .tuple #[.agg #[r0a, r0b, r0c, r0d], .int .i64 (rqe f g (f.n.val * g.d.val) (f.d.val * g.n.val))]) (by simp [results, Try.results53, go_sem, k0a, k0b, k0c, k0d]) rfl ?_
        exact ⟨_, rfl, HB.out, _, _, rfl, isL_two.2 ⟨_, _, _, _, rfl, h0a, h0b⟩, rfl⟩
set_option maxRecDepth 100000 in
set_option maxHeartbeats 1000000 in
theorem rDivR_got (f g : RQ) (v0 v1 : Value) (w : World) (h0 : (isL [rC f.n, rC f.d]).p v0 w) (h1 : (isL [rC g.n, rC g.d]).p v1 w) :
    Calls Try.prog 62 #[v0, v1] w (Got w (isP (isL [zC (rdn f g), zC (rdd f g)]) (isV (.int .i64 (rde f g)))).p) := by
  obtain ⟨u0, x0, y0, z0, rfl, p0, q0⟩ := isL_two.1 h0
  obtain ⟨u1, x1, y1, z1, rfl, p1, q1⟩ := isL_two.1 h1
  clear h0 h1
  by_cases hok : (f.ok && g.ok) = true
  · by_cases h0 : g.n.val = 0
    · have hf : f.ok = true := by simp at hok; exact hok.1
      have hg : g.ok = true := by simp at hok; exact hok.2
      obtain ⟨l1, l2⟩ := ok_lens hf p0 q0
      obtain ⟨l3, l4⟩ := ok_lens hg p1 q1
      have HOf := Hd.mk hf
      have HOg := Hd.mk hg
      have HB0 : Hd (f.d.val ≠ 0) := ⟨by have := RQ.ok_pos hf; omega⟩
      have HD0 : Hd (g.d.val ≠ 0) := ⟨by have := RQ.ok_pos hg; omega⟩
      have HOK : Hd ([f, g].all RQ.ok = true) := ⟨by rw [all_rq2]; exact hok⟩
      have hz : rdz f g = true := by unfold rdz; rw [hok, decide_eq_true h0]; rfl
      have e1 : rdn f g = 0 := if_pos hz
      have e2 : rdd f g = 0 := if_pos hz
      have e3 : rde f g = 4 := if_pos hz
      rw [e1, e2, e3]
      clear e1 e2 e3
      have HZ := Hd.mk (decide_eq_true h0)
      clear hz hok hf hg h0
      go_enter Try.func62, Try.ntmps62
      go_upto_region 1 with fail
      obtain ⟨W0, hW0⟩ : ∃ W : World, W = ((w.alloc (.cells #[u0, x0, y0, z0] 58)).alloc (.cells #[u1, x1, y1, z1] 58)).alloc (.cells #[Value.bool false, Value.slice none 0 0, Value.bool false, Value.slice none 0 0] 58) := ⟨_, rfl⟩
      rw [← hW0]
      obtain ⟨he, hb⟩ := env_three (cp2 p0 q0) (cp2 p1 q1) (cp2 (cp0 _) (cp0 _)) hW0
      have HE := Hd.mk he
      have HB := Hd.mk hb
      clear he hb hW0
      refine wp_region_vd 8 [6, 7, 8, 9, 10, 11, 12, 13] [2, 3, 6, 7] [] 70 [.bool false, .slice none 0 0] [isL [rC f.n, rC f.d], isV (.bool true), isV (.bool false), isV (.bool false), isL [rC g.n, rC g.d], isV (.bool true), isV (.bool false), isV (.bool false)] (by rfl) alloc_whole ?_ ?_
      · intro i hi hA aa wx hb hs hd
        match i, hi, hA with
        | 0, _, _ => exact .inl ⟨rfl, op_ldR rfl rfl (hs 2 rfl) ((HE.out.to hb).get 0 rfl)⟩
        | 1, _, _ => exact .inl ⟨rfl, wp_b HOf.out (op_call1 rfl rfl Try.call50 (ValidRat_got f _ _ (hd 0 rfl)))⟩
        | 2, _, _ => exact .inl ⟨rfl, ⟨_, op_not rfl (hd 1 rfl), rfl⟩⟩
        | 3, _, _ => exact .inl ⟨rfl, op_mv rfl (hd 2 rfl)⟩
        | 4, _, _ => exact .inl ⟨⟨rfl, hd 3 rfl⟩, op_ldR rfl rfl (hs 3 rfl) ((HE.out.to hb).get 1 rfl)⟩
        | 5, _, _ => exact .inl ⟨⟨rfl, hd 3 rfl⟩, wp_b HOg.out (op_call1 rfl rfl Try.call50 (ValidRat_got g _ _ (hd 4 rfl)))⟩
        | 6, _, _ => exact .inl ⟨⟨rfl, hd 3 rfl⟩, ⟨_, op_not rfl (hd 5 rfl), rfl⟩⟩
        | 7, _, _ => exact .inl ⟨rfl, ⟨_, op_pickF rfl (hd 3 rfl) (hd 6 rfl), rfl⟩⟩
        | i + 8, h, _ => omega
      · intro vs X1 hb hv hal hne
        replace HB := Hd.mk (bel_then HB.out hb)
        replace HE : Hd (Env X1 [⟨w.heap.size, 58, [rC f.n, rC f.d]⟩, ⟨w.heap.size + 1, 58, [rC g.n, rC g.d]⟩, ⟨w.heap.size + 1 + 1, 58, [zC 0, zC 0]⟩]) := ⟨HE.out.to hb⟩
        have e13 : vs 13 = .bool false := hv 7 (by decide) rfl
        simp only [putAll, List.foldl_cons, List.foldl_nil, Act.put, List.setIfInBounds_toArray, List.set_cons_succ, List.set_cons_zero, List.drop_succ_cons, List.drop_zero, e13]
        generalize vs 6 = s6
        generalize vs 7 = s7
        generalize vs 8 = s8
        generalize vs 9 = s9
        generalize vs 10 = s10
        generalize vs 11 = s11
        generalize vs 12 = s12
        clear hv hal hne hb
        go_upto_region 3 with fail
        refine wp_region_vd 4 [15, 16, 17, 18] [0] [] 70 [.bool false, .slice none 0 0] [isV (.pointer (some ⟨w.heap.size + 1, 0, none⟩)), isL [rC g.n], isZ g.n.val, isV (.bool true)] (by rfl) alloc_whole ?_ ?_
        · intro i hi hA aa wx hb hs hd
          match i, hi, hA with
          | 0, _, _ => exact .inl ⟨rfl, ⟨_, op_faR0 rfl (hs 3 rfl), rfl⟩⟩
          | 1, _, _ => exact .inl ⟨rfl, op_ldI rfl rfl (hd 0 rfl) ((HE.out.to hb).get 1 rfl).a0⟩
          | 2, _, _ => exact .inl ⟨rfl, op_call1 rfl rfl Try.call32 (rOf_rz g.n (RQ.ok_n HOg.out) _ _ (hd 1 rfl))⟩
          | 3, _, _ => exact .inl ⟨rfl, wp_b HZ.out (op_call1 rfl rfl Try.call44 (rZero_got g.n.val _ _ (hd 2 rfl) (by omega)))⟩
          | i + 4, h, _ => omega
        · intro vs X2 hb hv hal hne
          replace HB := Hd.mk (bel_then HB.out hb)
          replace HE : Hd (Env X2 [⟨w.heap.size, 58, [rC f.n, rC f.d]⟩, ⟨w.heap.size + 1, 58, [rC g.n, rC g.d]⟩, ⟨w.heap.size + 1 + 1, 58, [zC 0, zC 0]⟩]) := ⟨HE.out.to hb⟩
          have e18 : vs 18 = .bool true := hv 3 (by decide) rfl
          simp only [putAll, List.foldl_cons, List.foldl_nil, Act.put, List.setIfInBounds_toArray, List.set_cons_succ, List.set_cons_zero, List.drop_succ_cons, List.drop_zero, e18]
          generalize vs 15 = s15
          generalize vs 16 = s16
          generalize vs 17 = s17
          clear hv hal hne hb
          go_upto_region 4 with fail
          refine wp_region_vd 1 [19] [0] [] 70 [.bool false, .slice none 0 0] [isL [zC 0, zC 0]] (by rfl) alloc_whole ?_ ?_
          · intro i hi hA aa wx hb hs hd
            match i, hi, hA with
            | 0, _, _ => exact .inl ⟨rfl, op_b0R rfl⟩
            | i + 1, h, _ => omega
          · intro vs X3 hb hv hal hne
            replace HB := Hd.mk (bel_then HB.out hb)
            replace HE : Hd (Env X3 [⟨w.heap.size, 58, [rC f.n, rC f.d]⟩, ⟨w.heap.size + 1, 58, [rC g.n, rC g.d]⟩, ⟨w.heap.size + 1 + 1, 58, [zC 0, zC 0]⟩]) := ⟨HE.out.to hb⟩
            have t19 : (isL [zC 0, zC 0]).p (vs 19) X3 := hv 0 (by decide) rfl
            obtain ⟨u19, y19, p19, q19, e19, c19, k19⟩ := isL_two.1 t19
            simp only [putAll, List.foldl_cons, List.foldl_nil, Act.put, List.setIfInBounds_toArray, List.set_cons_succ, List.set_cons_zero, List.drop_succ_cons, List.drop_zero, e19]
            refine wpList_st rfl rfl rfl rfl rfl (sto_R c19 k19 (HE.out.get 2 rfl)) ?_
            have HE' : Env (putAt (putAt X3 (w.heap.size + 1 + 1) 0 u19 y19) (w.heap.size + 1 + 1) 2 p19 q19) [⟨w.heap.size, 58, [rC f.n, rC f.d]⟩, ⟨w.heap.size + 1, 58, [rC g.n, rC g.d]⟩, ⟨w.heap.size + 1 + 1, 58, [zC 0, zC 0]⟩] := HE.out.put4 2 rfl c19 k19
            have HB' := below_put4 (u := u19) (v := y19) (u' := p19) (v' := q19) HB.out (show w.heap.size ≤ w.heap.size + 1 + 1 from by omega)
            generalize putAt (putAt X3 (w.heap.size + 1 + 1) 0 u19 y19) (w.heap.size + 1 + 1) 2 p19 q19 = X4 at *
            replace HE := Hd.mk HE'
            replace HB := Hd.mk HB'
            clear HE' HB'
            clear hv hal hne hb
            go_wp2_with fail
            obtain ⟨r0a, r0b, r0c, r0d, k0a, k0b, k0c, k0d, h0a, h0b⟩ := (HE.out.get 2 rfl).cells2
            refine bodyPost_ret (v := .tuple #[.agg #[r0a, r0b, r0c, r0d], .int .i64 4]) (by simp [results, Try.results62, go_sem, k0a, k0b, k0c, k0d]) rfl ?_
            exact ⟨_, rfl, HB.out, _, _, rfl, isL_two.2 ⟨_, _, _, _, rfl, h0a, h0b⟩, rfl⟩
    · have hf : f.ok = true := by simp at hok; exact hok.1
      have hg : g.ok = true := by simp at hok; exact hok.2
      obtain ⟨l1, l2⟩ := ok_lens hf p0 q0
      obtain ⟨l3, l4⟩ := ok_lens hg p1 q1
      have HOf := Hd.mk hf
      have HOg := Hd.mk hg
      have HB0 : Hd (f.d.val ≠ 0) := ⟨by have := RQ.ok_pos hf; omega⟩
      have HD0 : Hd (g.d.val ≠ 0) := ⟨by have := RQ.ok_pos hg; omega⟩
      have HOK : Hd ([f, g].all RQ.ok = true) := ⟨by rw [all_rq2]; exact hok⟩
      have hz : ¬ rdz f g = true := by unfold rdz; rw [hok, decide_eq_false h0]; decide
      have e1 : rdn f g = rqn f g (f.n.val * g.d.val) (f.d.val * g.n.val) := if_neg hz
      have e2 : rdd f g = rqd f g (f.n.val * g.d.val) (f.d.val * g.n.val) := if_neg hz
      have e3 : rde f g = rqe f g (f.n.val * g.d.val) (f.d.val * g.n.val) := if_neg hz
      rw [e1, e2, e3]
      clear e1 e2 e3
      have HCC : Hd ((f.ok && g.ok) = true → g.n.val ≠ 0) := ⟨fun _ => h0⟩
      have HC0 := Hd.mk h0
      have HZ := Hd.mk (decide_eq_false h0)
      clear hz hf hg h0
      have bD : ln (f.d.val * g.n.val).natAbs ≤ 2000 := Nat.le_trans (ln_zmul _ _) (by omega)
      have bN : ln (f.n.val * g.d.val).natAbs ≤ 2000 := Nat.le_trans (ln_zmul _ _) (by omega)
      have HL1 : Hd (ln (qn (f.n.val * g.d.val) (f.d.val * g.n.val)).natAbs ≤ 100000) := ⟨Nat.le_trans (ln_qn _ _) (by omega)⟩
      have HL2 : Hd (ln (qd (f.n.val * g.d.val) (f.d.val * g.n.val)).natAbs ≤ 100000) := ⟨Nat.le_trans (ln_qd _ _) (by omega)⟩
      have e1 : rqn f g (f.n.val * g.d.val) (f.d.val * g.n.val) = fitn (qn (f.n.val * g.d.val) (f.d.val * g.n.val)) (qd (f.n.val * g.d.val) (f.d.val * g.n.val)) := if_pos hok
      have e2 : rqd f g (f.n.val * g.d.val) (f.d.val * g.n.val) = fitd (qn (f.n.val * g.d.val) (f.d.val * g.n.val)) (qd (f.n.val * g.d.val) (f.d.val * g.n.val)) := if_pos hok
      have e3 : rqe f g (f.n.val * g.d.val) (f.d.val * g.n.val) = fitc (qn (f.n.val * g.d.val) (f.d.val * g.n.val)) (qd (f.n.val * g.d.val) (f.d.val * g.n.val)) := if_pos hok
      rw [e1, e2, e3]
      clear e1 e2 e3 hok
      go_enter Try.func62, Try.ntmps62
      go_upto_region 1 with fail
      obtain ⟨W0, hW0⟩ : ∃ W : World, W = ((w.alloc (.cells #[u0, x0, y0, z0] 58)).alloc (.cells #[u1, x1, y1, z1] 58)).alloc (.cells #[Value.bool false, Value.slice none 0 0, Value.bool false, Value.slice none 0 0] 58) := ⟨_, rfl⟩
      rw [← hW0]
      obtain ⟨he, hb⟩ := env_three (cp2 p0 q0) (cp2 p1 q1) (cp2 (cp0 _) (cp0 _)) hW0
      have HE := Hd.mk he
      have HB := Hd.mk hb
      clear he hb hW0
      refine wp_region_vd 8 [6, 7, 8, 9, 10, 11, 12, 13] [2, 3, 6, 7] [] 70 [.bool false, .slice none 0 0] [isL [rC f.n, rC f.d], isV (.bool true), isV (.bool false), isV (.bool false), isL [rC g.n, rC g.d], isV (.bool true), isV (.bool false), isV (.bool false)] (by rfl) alloc_whole ?_ ?_
      · intro i hi hA aa wx hb hs hd
        match i, hi, hA with
        | 0, _, _ => exact .inl ⟨rfl, op_ldR rfl rfl (hs 2 rfl) ((HE.out.to hb).get 0 rfl)⟩
        | 1, _, _ => exact .inl ⟨rfl, wp_b HOf.out (op_call1 rfl rfl Try.call50 (ValidRat_got f _ _ (hd 0 rfl)))⟩
        | 2, _, _ => exact .inl ⟨rfl, ⟨_, op_not rfl (hd 1 rfl), rfl⟩⟩
        | 3, _, _ => exact .inl ⟨rfl, op_mv rfl (hd 2 rfl)⟩
        | 4, _, _ => exact .inl ⟨⟨rfl, hd 3 rfl⟩, op_ldR rfl rfl (hs 3 rfl) ((HE.out.to hb).get 1 rfl)⟩
        | 5, _, _ => exact .inl ⟨⟨rfl, hd 3 rfl⟩, wp_b HOg.out (op_call1 rfl rfl Try.call50 (ValidRat_got g _ _ (hd 4 rfl)))⟩
        | 6, _, _ => exact .inl ⟨⟨rfl, hd 3 rfl⟩, ⟨_, op_not rfl (hd 5 rfl), rfl⟩⟩
        | 7, _, _ => exact .inl ⟨rfl, ⟨_, op_pickF rfl (hd 3 rfl) (hd 6 rfl), rfl⟩⟩
        | i + 8, h, _ => omega
      · intro vs X1 hb hv hal hne
        replace HB := Hd.mk (bel_then HB.out hb)
        replace HE : Hd (Env X1 [⟨w.heap.size, 58, [rC f.n, rC f.d]⟩, ⟨w.heap.size + 1, 58, [rC g.n, rC g.d]⟩, ⟨w.heap.size + 1 + 1, 58, [zC 0, zC 0]⟩]) := ⟨HE.out.to hb⟩
        have e13 : vs 13 = .bool false := hv 7 (by decide) rfl
        simp only [putAll, List.foldl_cons, List.foldl_nil, Act.put, List.setIfInBounds_toArray, List.set_cons_succ, List.set_cons_zero, List.drop_succ_cons, List.drop_zero, e13]
        generalize vs 6 = s6
        generalize vs 7 = s7
        generalize vs 8 = s8
        generalize vs 9 = s9
        generalize vs 10 = s10
        generalize vs 11 = s11
        generalize vs 12 = s12
        clear hv hal hne hb
        go_upto_region 3 with fail
        refine wp_region_vd 4 [15, 16, 17, 18] [0] [] 70 [.bool false, .slice none 0 0] [isV (.pointer (some ⟨w.heap.size + 1, 0, none⟩)), isL [rC g.n], isZ g.n.val, isV (.bool false)] (by rfl) alloc_whole ?_ ?_
        · intro i hi hA aa wx hb hs hd
          match i, hi, hA with
          | 0, _, _ => exact .inl ⟨rfl, ⟨_, op_faR0 rfl (hs 3 rfl), rfl⟩⟩
          | 1, _, _ => exact .inl ⟨rfl, op_ldI rfl rfl (hd 0 rfl) ((HE.out.to hb).get 1 rfl).a0⟩
          | 2, _, _ => exact .inl ⟨rfl, op_call1 rfl rfl Try.call32 (rOf_rz g.n (RQ.ok_n HOg.out) _ _ (hd 1 rfl))⟩
          | 3, _, _ => exact .inl ⟨rfl, wp_b HZ.out (op_call1 rfl rfl Try.call44 (rZero_got g.n.val _ _ (hd 2 rfl) (by omega)))⟩
          | i + 4, h, _ => omega
        · intro vs X2 hb hv hal hne
          replace HB := Hd.mk (bel_then HB.out hb)
          replace HE : Hd (Env X2 [⟨w.heap.size, 58, [rC f.n, rC f.d]⟩, ⟨w.heap.size + 1, 58, [rC g.n, rC g.d]⟩, ⟨w.heap.size + 1 + 1, 58, [zC 0, zC 0]⟩]) := ⟨HE.out.to hb⟩
          have e18 : vs 18 = .bool false := hv 3 (by decide) rfl
          simp only [putAll, List.foldl_cons, List.foldl_nil, Act.put, List.setIfInBounds_toArray, List.set_cons_succ, List.set_cons_zero, List.drop_succ_cons, List.drop_zero, e18]
          generalize vs 15 = s15
          generalize vs 16 = s16
          generalize vs 17 = s17
          clear hv hal hne hb
          go_upto_region 5 with fail
          refine wp_region_vs 8 [20, 21, 22, 23, 24, 25, 26, 27] [6, 7] [] 70 [.bool false, .slice none 0 0] [isL [rC f.n, rC f.d], isL [zC f.n.val, zC f.d.val], isL [rC g.n, rC g.d], isL [zC g.n.val, zC g.d.val], isL [zC (qn (f.n.val * g.d.val) (f.d.val * g.n.val)), zC (qd (f.n.val * g.d.val) (f.d.val * g.n.val))], isP (isL [zC (fitn (qn (f.n.val * g.d.val) (f.d.val * g.n.val)) (qd (f.n.val * g.d.val) (f.d.val * g.n.val))), zC (fitd (qn (f.n.val * g.d.val) (f.d.val * g.n.val)) (qd (f.n.val * g.d.val) (f.d.val * g.n.val)))]) (isV (.int .i64 (fitc (qn (f.n.val * g.d.val) (f.d.val * g.n.val)) (qd (f.n.val * g.d.val) (f.d.val * g.n.val))))), isL [zC (fitn (qn (f.n.val * g.d.val) (f.d.val * g.n.val)) (qd (f.n.val * g.d.val) (f.d.val * g.n.val))), zC (fitd (qn (f.n.val * g.d.val) (f.d.val * g.n.val)) (qd (f.n.val * g.d.val) (f.d.val * g.n.val)))], isV (.int .i64 (fitc (qn (f.n.val * g.d.val) (f.d.val * g.n.val)) (qd (f.n.val * g.d.val) (f.d.val * g.n.val))))] (by kernel_rfl) (by kernel_rfl) (by kernel_rfl) (by rfl) alloc_whole (fun d v c a w h => by cases d <;> exact h) ?_ ?_
          · intro i hi hA aa wx hb hs hd
            match i, hi, hA with
            | 0, _, _ => exact op_ldR rfl rfl (hs 2 rfl) ((HE.out.to hb).get 0 rfl)
            | 1, _, _ => exact op_call1 rfl rfl Try.call109 (OfRat_got f HOf.out _ _ (hd 0 rfl))
            | 2, _, _ => exact op_ldR rfl rfl (hs 3 rfl) ((HE.out.to hb).get 1 rfl)
            | 3, _, _ => exact op_call1 rfl rfl Try.call109 (OfRat_got g HOg.out _ _ (hd 2 rfl))
            | 4, _, _ => exact op_call2 rfl rfl Try.call114 (rOverQ_got f.n.val f.d.val g.n.val g.d.val HB0.out HC0.out (by omega) (by omega) (by omega) (by omega) _ _ _ (hd 1 rfl) (hd 3 rfl))
            | 5, _, _ => exact op_call1 rfl rfl Try.call110 (rratio_got (qn (f.n.val * g.d.val) (f.d.val * g.n.val)) (qd (f.n.val * g.d.val) (f.d.val * g.n.val)) HL1.out HL2.out _ _ (hd 4 rfl))
            | 6, _, _ => exact op_fst rfl (hd 5 rfl)
            | 7, _, _ => exact op_snd rfl (hd 5 rfl)
            | i + 8, h, _ => omega
          · intro vs X3 hb hv hal hne
            replace HB := Hd.mk (bel_then HB.out hb)
            replace HE : Hd (Env X3 [⟨w.heap.size, 58, [rC f.n, rC f.d]⟩, ⟨w.heap.size + 1, 58, [rC g.n, rC g.d]⟩, ⟨w.heap.size + 1 + 1, 58, [zC 0, zC 0]⟩]) := ⟨HE.out.to hb⟩
            have t26 : (isL [zC (fitn (qn (f.n.val * g.d.val) (f.d.val * g.n.val)) (qd (f.n.val * g.d.val) (f.d.val * g.n.val))), zC (fitd (qn (f.n.val * g.d.val) (f.d.val * g.n.val)) (qd (f.n.val * g.d.val) (f.d.val * g.n.val)))]).p (vs 26) X3 := hv 6 (by decide) rfl
            obtain ⟨u26, y26, p26, q26, e26, c26, k26⟩ := isL_two.1 t26
            have e27 : vs 27 = .int .i64 (fitc (qn (f.n.val * g.d.val) (f.d.val * g.n.val)) (qd (f.n.val * g.d.val) (f.d.val * g.n.val))) := hv 7 (by decide) rfl
            simp only [putAll, List.foldl_cons, List.foldl_nil, Act.put, List.setIfInBounds_toArray, List.set_cons_succ, List.set_cons_zero, List.drop_succ_cons, List.drop_zero, e26, e27]
            generalize vs 20 = s20
            generalize vs 21 = s21
            generalize vs 22 = s22
            generalize vs 23 = s23
            generalize vs 24 = s24
            generalize vs 25 = s25
            refine wpList_st rfl rfl rfl rfl rfl (sto_R c26 k26 (HE.out.get 2 rfl)) ?_
            have HE' : Env (putAt (putAt X3 (w.heap.size + 1 + 1) 0 u26 y26) (w.heap.size + 1 + 1) 2 p26 q26) [⟨w.heap.size, 58, [rC f.n, rC f.d]⟩, ⟨w.heap.size + 1, 58, [rC g.n, rC g.d]⟩, ⟨w.heap.size + 1 + 1, 58, [zC (fitn (qn (f.n.val * g.d.val) (f.d.val * g.n.val)) (qd (f.n.val * g.d.val) (f.d.val * g.n.val))), zC (fitd (qn (f.n.val * g.d.val) (f.d.val * g.n.val)) (qd (f.n.val * g.d.val) (f.d.val * g.n.val)))]⟩] := HE.out.put4 2 rfl c26 k26
            have HB' := below_put4 (u := u26) (v := y26) (u' := p26) (v' := q26) HB.out (show w.heap.size ≤ w.heap.size + 1 + 1 from by omega)
            generalize putAt (putAt X3 (w.heap.size + 1 + 1) 0 u26 y26) (w.heap.size + 1 + 1) 2 p26 q26 = X4 at *
            replace HE := Hd.mk HE'
            replace HB := Hd.mk HB'
            clear HE' HB'
            clear hv hal hne hb
            go_wp2_with fail
            obtain ⟨r0a, r0b, r0c, r0d, k0a, k0b, k0c, k0d, h0a, h0b⟩ := (HE.out.get 2 rfl).cells2
            refine bodyPost_ret (v := .tuple #[.agg #[r0a, r0b, r0c, r0d], .int .i64 (fitc (qn (f.n.val * g.d.val) (f.d.val * g.n.val)) (qd (f.n.val * g.d.val) (f.d.val * g.n.val)))]) (by simp [results, Try.results62, go_sem, k0a, k0b, k0c, k0d]) rfl ?_
            exact ⟨_, rfl, HB.out, _, _, rfl, isL_two.2 ⟨_, _, _, _, rfl, h0a, h0b⟩, rfl⟩
  · have hno : (f.ok && g.ok) = false := by simpa using hok
    have hz : ¬ rdz f g = true := by unfold rdz; rw [hno]; simp
    have e1 : rdn f g = rqn f g (f.n.val * g.d.val) (f.d.val * g.n.val) := if_neg hz
    have e2 : rdd f g = rqd f g (f.n.val * g.d.val) (f.d.val * g.n.val) := if_neg hz
    have e3 : rde f g = rqe f g (f.n.val * g.d.val) (f.d.val * g.n.val) := if_neg hz
    rw [e1, e2, e3]
    clear e1 e2 e3
    have e1 : rqn f g (f.n.val * g.d.val) (f.d.val * g.n.val) = 0 := if_neg hok
    have e2 : rqd f g (f.n.val * g.d.val) (f.d.val * g.n.val) = 0 := if_neg hok
    have e3 : rqe f g (f.n.val * g.d.val) (f.d.val * g.n.val) = 2 := if_neg hok
    rw [e1, e2, e3]
    clear e1 e2 e3 hz hok
    by_cases hf : f.ok = true
    · have hg : g.ok = false := by rw [hf] at hno; simpa using hno
      have HOf := Hd.mk hf
      have HOg := Hd.mk hg
      clear hf hg hno
      go_enter Try.func62, Try.ntmps62
      go_upto_region 1 with fail
      obtain ⟨W0, hW0⟩ : ∃ W : World, W = ((w.alloc (.cells #[u0, x0, y0, z0] 58)).alloc (.cells #[u1, x1, y1, z1] 58)).alloc (.cells #[Value.bool false, Value.slice none 0 0, Value.bool false, Value.slice none 0 0] 58) := ⟨_, rfl⟩
      rw [← hW0]
      obtain ⟨he, hb⟩ := env_three (cp2 p0 q0) (cp2 p1 q1) (cp2 (cp0 _) (cp0 _)) hW0
      have HE := Hd.mk he
      have HB := Hd.mk hb
      clear he hb hW0
      refine wp_region_vd 8 [6, 7, 8, 9, 10, 11, 12, 13] [2, 3, 6, 7] [] 70 [.bool false, .slice none 0 0] [isL [rC f.n, rC f.d], isV (.bool true), isV (.bool false), isV (.bool false), isL [rC g.n, rC g.d], isV (.bool false), isV (.bool true), isV (.bool true)] (by rfl) alloc_whole ?_ ?_
      · intro i hi hA aa wx hb hs hd
        match i, hi, hA with
        | 0, _, _ => exact .inl ⟨rfl, op_ldR rfl rfl (hs 2 rfl) ((HE.out.to hb).get 0 rfl)⟩
        | 1, _, _ => exact .inl ⟨rfl, wp_b HOf.out (op_call1 rfl rfl Try.call50 (ValidRat_got f _ _ (hd 0 rfl)))⟩
        | 2, _, _ => exact .inl ⟨rfl, ⟨_, op_not rfl (hd 1 rfl), rfl⟩⟩
        | 3, _, _ => exact .inl ⟨rfl, op_mv rfl (hd 2 rfl)⟩
        | 4, _, _ => exact .inl ⟨⟨rfl, hd 3 rfl⟩, op_ldR rfl rfl (hs 3 rfl) ((HE.out.to hb).get 1 rfl)⟩
        | 5, _, _ => exact .inl ⟨⟨rfl, hd 3 rfl⟩, wp_b HOg.out (op_call1 rfl rfl Try.call50 (ValidRat_got g _ _ (hd 4 rfl)))⟩
        | 6, _, _ => exact .inl ⟨⟨rfl, hd 3 rfl⟩, ⟨_, op_not rfl (hd 5 rfl), rfl⟩⟩
        | 7, _, _ => exact .inl ⟨rfl, ⟨_, op_pickF rfl (hd 3 rfl) (hd 6 rfl), rfl⟩⟩
        | i + 8, h, _ => omega
      · intro vs X1 hb hv hal hne
        replace HB := Hd.mk (bel_then HB.out hb)
        replace HE : Hd (Env X1 [⟨w.heap.size, 58, [rC f.n, rC f.d]⟩, ⟨w.heap.size + 1, 58, [rC g.n, rC g.d]⟩, ⟨w.heap.size + 1 + 1, 58, [zC 0, zC 0]⟩]) := ⟨HE.out.to hb⟩
        have e13 : vs 13 = .bool true := hv 7 (by decide) rfl
        simp only [putAll, List.foldl_cons, List.foldl_nil, Act.put, List.setIfInBounds_toArray, List.set_cons_succ, List.set_cons_zero, List.drop_succ_cons, List.drop_zero, e13]
        generalize vs 6 = s6
        generalize vs 7 = s7
        generalize vs 8 = s8
        generalize vs 9 = s9
        generalize vs 10 = s10
        generalize vs 11 = s11
        generalize vs 12 = s12
        clear hv hal hne hb
        go_upto_region 2 with fail
        refine wp_region_vd 1 [14] [0] [] 70 [.bool false, .slice none 0 0] [isL [zC 0, zC 0]] (by rfl) alloc_whole ?_ ?_
        · intro i hi hA aa wx hb hs hd
          match i, hi, hA with
          | 0, _, _ => exact .inl ⟨rfl, op_b0R rfl⟩
          | i + 1, h, _ => omega
        · intro vs X2 hb hv hal hne
          replace HB := Hd.mk (bel_then HB.out hb)
          replace HE : Hd (Env X2 [⟨w.heap.size, 58, [rC f.n, rC f.d]⟩, ⟨w.heap.size + 1, 58, [rC g.n, rC g.d]⟩, ⟨w.heap.size + 1 + 1, 58, [zC 0, zC 0]⟩]) := ⟨HE.out.to hb⟩
          have t14 : (isL [zC 0, zC 0]).p (vs 14) X2 := hv 0 (by decide) rfl
          obtain ⟨u14, y14, p14, q14, e14, c14, k14⟩ := isL_two.1 t14
          simp only [putAll, List.foldl_cons, List.foldl_nil, Act.put, List.setIfInBounds_toArray, List.set_cons_succ, List.set_cons_zero, List.drop_succ_cons, List.drop_zero, e14]
          refine wpList_st rfl rfl rfl rfl rfl (sto_R c14 k14 (HE.out.get 2 rfl)) ?_
          have HE' : Env (putAt (putAt X2 (w.heap.size + 1 + 1) 0 u14 y14) (w.heap.size + 1 + 1) 2 p14 q14) [⟨w.heap.size, 58, [rC f.n, rC f.d]⟩, ⟨w.heap.size + 1, 58, [rC g.n, rC g.d]⟩, ⟨w.heap.size + 1 + 1, 58, [zC 0, zC 0]⟩] := HE.out.put4 2 rfl c14 k14
          have HB' := below_put4 (u := u14) (v := y14) (u' := p14) (v' := q14) HB.out (show w.heap.size ≤ w.heap.size + 1 + 1 from by omega)
          generalize putAt (putAt X2 (w.heap.size + 1 + 1) 0 u14 y14) (w.heap.size + 1 + 1) 2 p14 q14 = X3 at *
          replace HE := Hd.mk HE'
          replace HB := Hd.mk HB'
          clear HE' HB'
          clear hv hal hne hb
          go_wp2_with fail
          obtain ⟨r0a, r0b, r0c, r0d, k0a, k0b, k0c, k0d, h0a, h0b⟩ := (HE.out.get 2 rfl).cells2
          refine bodyPost_ret (v := .tuple #[.agg #[r0a, r0b, r0c, r0d], .int .i64 2]) (by simp [results, Try.results62, go_sem, k0a, k0b, k0c, k0d]) rfl ?_
          exact ⟨_, rfl, HB.out, _, _, rfl, isL_two.2 ⟨_, _, _, _, rfl, h0a, h0b⟩, rfl⟩
    · have hf' : f.ok = false := by simpa using hf
      have HOf := Hd.mk hf'
      clear hf hf' hno
      go_enter Try.func62, Try.ntmps62
      go_upto_region 1 with fail
      obtain ⟨W0, hW0⟩ : ∃ W : World, W = ((w.alloc (.cells #[u0, x0, y0, z0] 58)).alloc (.cells #[u1, x1, y1, z1] 58)).alloc (.cells #[Value.bool false, Value.slice none 0 0, Value.bool false, Value.slice none 0 0] 58) := ⟨_, rfl⟩
      rw [← hW0]
      obtain ⟨he, hb⟩ := env_three (cp2 p0 q0) (cp2 p1 q1) (cp2 (cp0 _) (cp0 _)) hW0
      have HE := Hd.mk he
      have HB := Hd.mk hb
      clear he hb hW0
      refine wp_region_vd 8 [6, 7, 8, 9, 10, 11, 12, 13] [2, 3, 7] [] 70 [.bool false, .slice none 0 0] [isL [rC f.n, rC f.d], isV (.bool false), isV (.bool true), isV (.bool true), SP.any, SP.any, SP.any, isV (.bool true)] (by rfl) alloc_whole ?_ ?_
      · intro i hi hA aa wx hb hs hd
        match i, hi, hA with
        | 0, _, _ => exact .inl ⟨rfl, op_ldR rfl rfl (hs 2 rfl) ((HE.out.to hb).get 0 rfl)⟩
        | 1, _, _ => exact .inl ⟨rfl, wp_b HOf.out (op_call1 rfl rfl Try.call50 (ValidRat_got f _ _ (hd 0 rfl)))⟩
        | 2, _, _ => exact .inl ⟨rfl, ⟨_, op_not rfl (hd 1 rfl), rfl⟩⟩
        | 3, _, _ => exact .inl ⟨rfl, op_mv rfl (hd 2 rfl)⟩
        | 4, _, _ => exact .inr ⟨⟨rfl, hd 3 rfl⟩, trivial⟩
        | 5, _, _ => exact .inr ⟨⟨rfl, hd 3 rfl⟩, trivial⟩
        | 6, _, _ => exact .inr ⟨⟨rfl, hd 3 rfl⟩, trivial⟩
        | 7, _, _ => exact .inl ⟨rfl, ⟨_, op_pickT rfl (hd 3 rfl) rfl, rfl⟩⟩
        | i + 8, h, _ => omega
      · intro vs X1 hb hv hal hne
        replace HB := Hd.mk (bel_then HB.out hb)
        replace HE : Hd (Env X1 [⟨w.heap.size, 58, [rC f.n, rC f.d]⟩, ⟨w.heap.size + 1, 58, [rC g.n, rC g.d]⟩, ⟨w.heap.size + 1 + 1, 58, [zC 0, zC 0]⟩]) := ⟨HE.out.to hb⟩
        have e13 : vs 13 = .bool true := hv 7 (by decide) rfl
        simp only [putAll, List.foldl_cons, List.foldl_nil, Act.put, List.setIfInBounds_toArray, List.set_cons_succ, List.set_cons_zero, List.drop_succ_cons, List.drop_zero, e13]
        generalize vs 6 = s6
        generalize vs 7 = s7
        generalize vs 8 = s8
        generalize vs 9 = s9
        generalize vs 10 = s10
        generalize vs 11 = s11
        generalize vs 12 = s12
        clear hv hal hne hb
        go_upto_region 2 with fail
        refine wp_region_vd 1 [14] [0] [] 70 [.bool false, .slice none 0 0] [isL [zC 0, zC 0]] (by rfl) alloc_whole ?_ ?_
        · intro i hi hA aa wx hb hs hd
          match i, hi, hA with
          | 0, _, _ => exact .inl ⟨rfl, op_b0R rfl⟩
          | i + 1, h, _ => omega
        · intro vs X2 hb hv hal hne
          replace HB := Hd.mk (bel_then HB.out hb)
          replace HE : Hd (Env X2 [⟨w.heap.size, 58, [rC f.n, rC f.d]⟩, ⟨w.heap.size + 1, 58, [rC g.n, rC g.d]⟩, ⟨w.heap.size + 1 + 1, 58, [zC 0, zC 0]⟩]) := ⟨HE.out.to hb⟩
          have t14 : (isL [zC 0, zC 0]).p (vs 14) X2 := hv 0 (by decide) rfl
          obtain ⟨u14, y14, p14, q14, e14, c14, k14⟩ := isL_two.1 t14
          simp only [putAll, List.foldl_cons, List.foldl_nil, Act.put, List.setIfInBounds_toArray, List.set_cons_succ, List.set_cons_zero, List.drop_succ_cons, List.drop_zero, e14]
          refine wpList_st rfl rfl rfl rfl rfl (sto_R c14 k14 (HE.out.get 2 rfl)) ?_
          have HE' : Env (putAt (putAt X2 (w.heap.size + 1 + 1) 0 u14 y14) (w.heap.size + 1 + 1) 2 p14 q14) [⟨w.heap.size, 58, [rC f.n, rC f.d]⟩, ⟨w.heap.size + 1, 58, [rC g.n, rC g.d]⟩, ⟨w.heap.size + 1 + 1, 58, [zC 0, zC 0]⟩] := HE.out.put4 2 rfl c14 k14
          have HB' := below_put4 (u := u14) (v := y14) (u' := p14) (v' := q14) HB.out (show w.heap.size ≤ w.heap.size + 1 + 1 from by omega)
          generalize putAt (putAt X2 (w.heap.size + 1 + 1) 0 u14 y14) (w.heap.size + 1 + 1) 2 p14 q14 = X3 at *
          replace HE := Hd.mk HE'
          replace HB := Hd.mk HB'
          clear HE' HB'
          clear hv hal hne hb
          go_wp2_with fail
          obtain ⟨r0a, r0b, r0c, r0d, k0a, k0b, k0c, k0d, h0a, h0b⟩ := (HE.out.get 2 rfl).cells2
          refine bodyPost_ret (v := .tuple #[.agg #[r0a, r0b, r0c, r0d], .int .i64 2]) (by simp [results, Try.results62, go_sem, k0a, k0b, k0c, k0d]) rfl ?_
          exact ⟨_, rfl, HB.out, _, _, rfl, isL_two.2 ⟨_, _, _, _, rfl, h0a, h0b⟩, rfl⟩
set_option maxRecDepth 100000 in
set_option maxHeartbeats 1000000 in
theorem RatCmp_got (f g : RQ) (v0 v1 : Value) (w : World) (h0 : (isL [rC f.n, rC f.d]).p v0 w) (h1 : (isL [rC g.n, rC g.d]).p v1 w) :
    Calls Try.prog 57 #[v0, v1] w (Got w (isP (isV (.int .i64 (rcn f g))) (isV (.int .i64 (rce f g)))).p) := by
  obtain ⟨u0, x0, y0, z0, rfl, p0, q0⟩ := isL_two.1 h0
  obtain ⟨u1, x1, y1, z1, rfl, p1, q1⟩ := isL_two.1 h1
  clear h0 h1
  by_cases hok : (f.ok && g.ok) = true
  · have hf : f.ok = true := by simp at hok; exact hok.1
    have hg : g.ok = true := by simp at hok; exact hok.2
    obtain ⟨l1, l2⟩ := ok_lens hf p0 q0
    obtain ⟨l3, l4⟩ := ok_lens hg p1 q1
    have HOf := Hd.mk hf
    have HOg := Hd.mk hg
    have HB0 : Hd (f.d.val ≠ 0) := ⟨by have := RQ.ok_pos hf; omega⟩
    have HD0 : Hd (g.d.val ≠ 0) := ⟨by have := RQ.ok_pos hg; omega⟩
    have HOK : Hd ([f, g].all RQ.ok = true) := ⟨by rw [all_rq2]; exact hok⟩
    have e1 : rcn f g = sgnv (f.n.val * g.d.val - g.n.val * f.d.val) := if_pos hok
    have e2 : rce f g = 0 := if_pos hok
    rw [e1, e2]
    clear e1 e2
    clear hok hf hg
    go_enter Try.func57, Try.ntmps57
    go_upto_region 1 with fail
    obtain ⟨W0, hW0⟩ : ∃ W : World, W = (w.alloc (.cells #[u0, x0, y0, z0] 58)).alloc (.cells #[u1, x1, y1, z1] 58) := ⟨_, rfl⟩
    rw [← hW0]
    obtain ⟨he, hb⟩ := env_two (cp2 p0 q0) (cp2 p1 q1) hW0
    have HE := Hd.mk he
    have HB := Hd.mk hb
    clear he hb hW0
    refine wp_region_vd 5 [6, 7, 8, 9, 10] [4] [] 70 [.bool false, .slice none 0 0] [isL [rC f.n, rC f.d], isL [rC g.n, rC g.d], isRats [f, g], isV (.bool true), isV (.bool false)] (by rfl) alloc_whole ?_ ?_
    · intro i hi hA aa wx hb hs hd
      match i, hi, hA with
      | 0, _, _ => exact .inl ⟨rfl, op_ldR rfl rfl (hs 2 rfl) ((HE.out.to hb).get 0 rfl)⟩
      | 1, _, _ => exact .inl ⟨rfl, op_ldR rfl rfl (hs 3 rfl) ((HE.out.to hb).get 1 rfl)⟩
      | 2, _, _ => exact .inl ⟨rfl, op_bsR2 rfl rfl (hd 0 rfl) (hd 1 rfl)⟩
      | 3, _, _ => exact .inl ⟨rfl, wp_b HOK.out (op_call1 rfl rfl Try.call102 (validRats_got [f, g] (by show 2 ≤ 2; omega) _ _ (hd 2 rfl)))⟩
      | 4, _, _ => exact .inl ⟨rfl, ⟨_, op_not rfl (hd 3 rfl), rfl⟩⟩
      | i + 5, h, _ => omega
    · intro vs X1 hb hv hal hne
      replace HB := Hd.mk (bel_then HB.out hb)
      replace HE : Hd (Env X1 [⟨w.heap.size, 58, [rC f.n, rC f.d]⟩, ⟨w.heap.size + 1, 58, [rC g.n, rC g.d]⟩]) := ⟨HE.out.to hb⟩
      have e10 : vs 10 = .bool false := hv 4 (by decide) rfl
      simp only [putAll, List.foldl_cons, List.foldl_nil, Act.put, List.setIfInBounds_toArray, List.set_cons_succ, List.set_cons_zero, List.drop_succ_cons, List.drop_zero, e10]
      generalize vs 6 = s6
      generalize vs 7 = s7
      generalize vs 8 = s8
      generalize vs 9 = s9
      clear hv hal hne hb
      go_upto_region 3 with fail
      refine wp_region_vs 5 [11, 12, 13, 14, 15] [] [] 70 [.bool false, .slice none 0 0] [isL [rC f.n, rC f.d], isL [zC f.n.val, zC f.d.val], isL [rC g.n, rC g.d], isL [zC g.n.val, zC g.d.val], isV (.int .i64 (sgnv (f.n.val * g.d.val - g.n.val * f.d.val)))] (by kernel_rfl) (by kernel_rfl) (by kernel_rfl) (by rfl) alloc_whole (fun d v c a w h => by cases d <;> exact h) ?_ ?_
      · intro i hi hA aa wx hb hs hd
        match i, hi, hA with
        | 0, _, _ => exact op_ldR rfl rfl (hs 2 rfl) ((HE.out.to hb).get 0 rfl)
        | 1, _, _ => exact op_call1 rfl rfl Try.call103 (ratOf_got f HOf.out _ _ (hd 0 rfl))
        | 2, _, _ => exact op_ldR rfl rfl (hs 3 rfl) ((HE.out.to hb).get 1 rfl)
        | 3, _, _ => exact op_call1 rfl rfl Try.call103 (ratOf_got g HOg.out _ _ (hd 2 rfl))
        | 4, _, _ => exact op_call2 rfl rfl Try.call107 (qcmp_got f.n.val f.d.val g.n.val g.d.val _ _ _ (hd 1 rfl) (hd 3 rfl) (by omega) (by omega) (by omega) (by omega))
        | i + 5, h, _ => omega
      · intro vs X2 hb hv hal hne
        replace HB := Hd.mk (bel_then HB.out hb)
        replace HE : Hd (Env X2 [⟨w.heap.size, 58, [rC f.n, rC f.d]⟩, ⟨w.heap.size + 1, 58, [rC g.n, rC g.d]⟩]) := ⟨HE.out.to hb⟩
        have e15 : vs 15 = .int .i64 (sgnv (f.n.val * g.d.val - g.n.val * f.d.val)) := hv 4 (by decide) rfl
        simp only [putAll, List.foldl_cons, List.foldl_nil, Act.put, List.setIfInBounds_toArray, List.set_cons_succ, List.set_cons_zero, List.drop_succ_cons, List.drop_zero, e15]
        generalize vs 11 = s11
        generalize vs 12 = s12
        generalize vs 13 = s13
        generalize vs 14 = s14
        clear hv hal hne hb
        go_wp2_with fail
        refine bodyPost_ret (v := .tuple #[.int .i64 (sgnv (f.n.val * g.d.val - g.n.val * f.d.val)), .int .i64 0]) (by simp [results, Try.results57, go_sem]) rfl ?_
        exact ⟨_, rfl, HB.out, _, _, rfl, rfl, rfl⟩
  · have hno : (f.ok && g.ok) = false := by simpa using hok
    have HOK : Hd ([f, g].all RQ.ok = false) := ⟨by rw [all_rq2]; exact hno⟩
    have e1 : rcn f g = 0 := if_neg hok
    have e2 : rce f g = 2 := if_neg hok
    rw [e1, e2]
    clear e1 e2
    clear hok hno
    go_enter Try.func57, Try.ntmps57
    go_upto_region 1 with fail
    obtain ⟨W0, hW0⟩ : ∃ W : World, W = (w.alloc (.cells #[u0, x0, y0, z0] 58)).alloc (.cells #[u1, x1, y1, z1] 58) := ⟨_, rfl⟩
    rw [← hW0]
    obtain ⟨he, hb⟩ := env_two (cp2 p0 q0) (cp2 p1 q1) hW0
    have HE := Hd.mk he
    have HB := Hd.mk hb
    clear he hb hW0
    refine wp_region_vd 5 [6, 7, 8, 9, 10] [4] [] 70 [.bool false, .slice none 0 0] [isL [rC f.n, rC f.d], isL [rC g.n, rC g.d], isRats [f, g], isV (.bool false), isV (.bool true)] (by rfl) alloc_whole ?_ ?_
    · intro i hi hA aa wx hb hs hd
      match i, hi, hA with
      | 0, _, _ => exact .inl ⟨rfl, op_ldR rfl rfl (hs 2 rfl) ((HE.out.to hb).get 0 rfl)⟩
      | 1, _, _ => exact .inl ⟨rfl, op_ldR rfl rfl (hs 3 rfl) ((HE.out.to hb).get 1 rfl)⟩
      | 2, _, _ => exact .inl ⟨rfl, op_bsR2 rfl rfl (hd 0 rfl) (hd 1 rfl)⟩
      | 3, _, _ => exact .inl ⟨rfl, wp_b HOK.out (op_call1 rfl rfl Try.call102 (validRats_got [f, g] (by show 2 ≤ 2; omega) _ _ (hd 2 rfl)))⟩
      | 4, _, _ => exact .inl ⟨rfl, ⟨_, op_not rfl (hd 3 rfl), rfl⟩⟩
      | i + 5, h, _ => omega
    · intro vs X1 hb hv hal hne
      replace HB := Hd.mk (bel_then HB.out hb)
      replace HE : Hd (Env X1 [⟨w.heap.size, 58, [rC f.n, rC f.d]⟩, ⟨w.heap.size + 1, 58, [rC g.n, rC g.d]⟩]) := ⟨HE.out.to hb⟩
      have e10 : vs 10 = .bool true := hv 4 (by decide) rfl
      simp only [putAll, List.foldl_cons, List.foldl_nil, Act.put, List.setIfInBounds_toArray, List.set_cons_succ, List.set_cons_zero, List.drop_succ_cons, List.drop_zero, e10]
      generalize vs 6 = s6
      generalize vs 7 = s7
      generalize vs 8 = s8
      generalize vs 9 = s9
      clear hv hal hne hb
      go_upto_region 2 with fail
      refine wp_region_vd 0 [] [] [] 70 [.bool false, .slice none 0 0] [] (by rfl) alloc_whole ?_ ?_
      · intro i hi hA aa wx hb hs hd
        match i, hi, hA with
        | i + 0, h, _ => omega
      · intro vs X2 hb hv hal hne
        replace HB := Hd.mk (bel_then HB.out hb)
        replace HE : Hd (Env X2 [⟨w.heap.size, 58, [rC f.n, rC f.d]⟩, ⟨w.heap.size + 1, 58, [rC g.n, rC g.d]⟩]) := ⟨HE.out.to hb⟩
        simp only [putAll, List.foldl_cons, List.foldl_nil, Act.put, List.setIfInBounds_toArray, List.set_cons_succ, List.set_cons_zero, List.drop_succ_cons, List.drop_zero]
        clear hv hal hne hb
        go_wp2_with fail
        refine bodyPost_ret (v := .tuple #[.int .i64 0, .int .i64 2]) (by simp [results, Try.results57, go_sem]) rfl ?_
        exact ⟨_, rfl, HB.out, _, _, rfl, rfl, rfl⟩
set_option maxRecDepth 100000 in
set_option maxHeartbeats 1000000 in
theorem rCmpR_got (f g : RQ) (v0 v1 : Value) (w : World) (h0 : (isL [rC f.n, rC f.d]).p v0 w) (h1 : (isL [rC g.n, rC g.d]).p v1 w) :
    Calls Try.prog 58 #[v0, v1] w (Got w (isP (isV (.int .i64 (rcn f g))) (isV (.int .i64 (rce f g)))).p) := by
  obtain ⟨u0, x0, y0, z0, rfl, p0, q0⟩ := isL_two.1 h0
  obtain ⟨u1, x1, y1, z1, rfl, p1, q1⟩ := isL_two.1 h1
  clear h0 h1
  by_cases hok : (f.ok && g.ok) = true
  · have hf : f.ok = true := by simp at hok; exact hok.1
    have hg : g.ok = true := by simp at hok; exact hok.2
    obtain ⟨l1, l2⟩ := ok_lens hf p0 q0
    obtain ⟨l3, l4⟩ := ok_lens hg p1 q1
    have HOf := Hd.mk hf
    have HOg := Hd.mk hg
    have HB0 : Hd (f.d.val ≠ 0) := ⟨by have := RQ.ok_pos hf; omega⟩
    have HD0 : Hd (g.d.val ≠ 0) := ⟨by have := RQ.ok_pos hg; omega⟩
    have HOK : Hd ([f, g].all RQ.ok = true) := ⟨by rw [all_rq2]; exact hok⟩
    have e1 : rcn f g = sgnv (f.n.val * g.d.val - g.n.val * f.d.val) := if_pos hok
    have e2 : rce f g = 0 := if_pos hok
    rw [e1, e2]
    clear e1 e2
    clear hok hf hg
    go_enter Try.func58, Try.ntmps58
    go_upto_region 1 with fail
    obtain ⟨W0, hW0⟩ : ∃ W : World, W = (w.alloc (.cells #[u0, x0, y0, z0] 58)).alloc (.cells #[u1, x1, y1, z1] 58) := ⟨_, rfl⟩
    rw [← hW0]
    obtain ⟨he, hb⟩ := env_two (cp2 p0 q0) (cp2 p1 q1) hW0
    have HE := Hd.mk he
    have HB := Hd.mk hb
    clear he hb hW0
    refine wp_region_vd 8 [6, 7, 8, 9, 10, 11, 12, 13] [2, 3, 6, 7] [] 70 [.bool false, .slice none 0 0] [isL [rC f.n, rC f.d], isV (.bool true), isV (.bool false), isV (.bool false), isL [rC g.n, rC g.d], isV (.bool true), isV (.bool false), isV (.bool false)] (by rfl) alloc_whole ?_ ?_
    · intro i hi hA aa wx hb hs hd
      match i, hi, hA with
      | 0, _, _ => exact .inl ⟨rfl, op_ldR rfl rfl (hs 2 rfl) ((HE.out.to hb).get 0 rfl)⟩
      | 1, _, _ => exact .inl ⟨rfl, wp_b HOf.out (op_call1 rfl rfl Try.call50 (ValidRat_got f _ _ (hd 0 rfl)))⟩
      | 2, _, _ => exact .inl ⟨rfl, ⟨_, op_not rfl (hd 1 rfl), rfl⟩⟩
      | 3, _, _ => exact .inl ⟨rfl, op_mv rfl (hd 2 rfl)⟩
      | 4, _, _ => exact .inl ⟨⟨rfl, hd 3 rfl⟩, op_ldR rfl rfl (hs 3 rfl) ((HE.out.to hb).get 1 rfl)⟩
      | 5, _, _ => exact .inl ⟨⟨rfl, hd 3 rfl⟩, wp_b HOg.out (op_call1 rfl rfl Try.call50 (ValidRat_got g _ _ (hd 4 rfl)))⟩
      | 6, _, _ => exact .inl ⟨⟨rfl, hd 3 rfl⟩, ⟨_, op_not rfl (hd 5 rfl), rfl⟩⟩
      | 7, _, _ => exact .inl ⟨rfl, ⟨_, op_pickF rfl (hd 3 rfl) (hd 6 rfl), rfl⟩⟩
      | i + 8, h, _ => omega
    · intro vs X1 hb hv hal hne
      replace HB := Hd.mk (bel_then HB.out hb)
      replace HE : Hd (Env X1 [⟨w.heap.size, 58, [rC f.n, rC f.d]⟩, ⟨w.heap.size + 1, 58, [rC g.n, rC g.d]⟩]) := ⟨HE.out.to hb⟩
      have e13 : vs 13 = .bool false := hv 7 (by decide) rfl
      simp only [putAll, List.foldl_cons, List.foldl_nil, Act.put, List.setIfInBounds_toArray, List.set_cons_succ, List.set_cons_zero, List.drop_succ_cons, List.drop_zero, e13]
      generalize vs 6 = s6
      generalize vs 7 = s7
      generalize vs 8 = s8
      generalize vs 9 = s9
      generalize vs 10 = s10
      generalize vs 11 = s11
      generalize vs 12 = s12
      clear hv hal hne hb
      go_upto_region 3 with fail
      refine wp_region_vs 5 [14, 15, 16, 17, 18] [] [] 70 [.bool false, .slice none 0 0] [isL [rC f.n, rC f.d], isL [zC f.n.val, zC f.d.val], isL [rC g.n, rC g.d], isL [zC g.n.val, zC g.d.val], isV (.int .i64 (sgnv (f.n.val * g.d.val - g.n.val * f.d.val)))] (by kernel_rfl) (by kernel_rfl) (by kernel_rfl) (by rfl) alloc_whole (fun d v c a w h => by cases d <;> exact h) ?_ ?_
      · intro i hi hA aa wx hb hs hd
        match i, hi, hA with
        | 0, _, _ => exact op_ldR rfl rfl (hs 2 rfl) ((HE.out.to hb).get 0 rfl)
        | 1, _, _ => exact op_call1 rfl rfl Try.call109 (OfRat_got f HOf.out _ _ (hd 0 rfl))
        | 2, _, _ => exact op_ldR rfl rfl (hs 3 rfl) ((HE.out.to hb).get 1 rfl)
        | 3, _, _ => exact op_call1 rfl rfl Try.call109 (OfRat_got g HOg.out _ _ (hd 2 rfl))
        | 4, _, _ => exact op_call2 rfl rfl Try.call108 (rOrderQ_got f.n.val f.d.val g.n.val g.d.val (by omega) (by omega) (by omega) (by omega) _ _ _ (hd 1 rfl) (hd 3 rfl))
        | i + 5, h, _ => omega
      · intro vs X2 hb hv hal hne
        replace HB := Hd.mk (bel_then HB.out hb)
        replace HE : Hd (Env X2 [⟨w.heap.size, 58, [rC f.n, rC f.d]⟩, ⟨w.heap.size + 1, 58, [rC g.n, rC g.d]⟩]) := ⟨HE.out.to hb⟩
        have e18 : vs 18 = .int .i64 (sgnv (f.n.val * g.d.val - g.n.val * f.d.val)) := hv 4 (by decide) rfl
        simp only [putAll, List.foldl_cons, List.foldl_nil, Act.put, List.setIfInBounds_toArray, List.set_cons_succ, List.set_cons_zero, List.drop_succ_cons, List.drop_zero, e18]
        generalize vs 14 = s14
        generalize vs 15 = s15
        generalize vs 16 = s16
        generalize vs 17 = s17
        clear hv hal hne hb
        go_wp2_with fail
        refine bodyPost_ret (v := .tuple #[.int .i64 (sgnv (f.n.val * g.d.val - g.n.val * f.d.val)), .int .i64 0]) (by simp [results, Try.results58, go_sem]) rfl ?_
        exact ⟨_, rfl, HB.out, _, _, rfl, rfl, rfl⟩
  · have hno : (f.ok && g.ok) = false := by simpa using hok
    have e1 : rcn f g = 0 := if_neg hok
    have e2 : rce f g = 2 := if_neg hok
    rw [e1, e2]
    clear e1 e2
    clear hok
    by_cases hf : f.ok = true
    · have hg : g.ok = false := by rw [hf] at hno; simpa using hno
      have HOf := Hd.mk hf
      have HOg := Hd.mk hg
      clear hf hg hno
      go_enter Try.func58, Try.ntmps58
      go_upto_region 1 with fail
      obtain ⟨W0, hW0⟩ : ∃ W : World, W = (w.alloc (.cells #[u0, x0, y0, z0] 58)).alloc (.cells #[u1, x1, y1, z1] 58) := ⟨_, rfl⟩
      rw [← hW0]
      obtain ⟨he, hb⟩ := env_two (cp2 p0 q0) (cp2 p1 q1) hW0
      have HE := Hd.mk he
      have HB := Hd.mk hb
      clear he hb hW0
      refine wp_region_vd 8 [6, 7, 8, 9, 10, 11, 12, 13] [2, 3, 6, 7] [] 70 [.bool false, .slice none 0 0] [isL [rC f.n, rC f.d], isV (.bool true), isV (.bool false), isV (.bool false), isL [rC g.n, rC g.d], isV (.bool false), isV (.bool true), isV (.bool true)] (by rfl) alloc_whole ?_ ?_
      · intro i hi hA aa wx hb hs hd
        match i, hi, hA with
        | 0, _, _ => exact .inl ⟨rfl, op_ldR rfl rfl (hs 2 rfl) ((HE.out.to hb).get 0 rfl)⟩
        | 1, _, _ => exact .inl ⟨rfl, wp_b HOf.out (op_call1 rfl rfl Try.call50 (ValidRat_got f _ _ (hd 0 rfl)))⟩
        | 2, _, _ => exact .inl ⟨rfl, ⟨_, op_not rfl (hd 1 rfl), rfl⟩⟩
        | 3, _, _ => exact .inl ⟨rfl, op_mv rfl (hd 2 rfl)⟩
        | 4, _, _ => exact .inl ⟨⟨rfl, hd 3 rfl⟩, op_ldR rfl rfl (hs 3 rfl) ((HE.out.to hb).get 1 rfl)⟩
        | 5, _, _ => exact .inl ⟨⟨rfl, hd 3 rfl⟩, wp_b HOg.out (op_call1 rfl rfl Try.call50 (ValidRat_got g _ _ (hd 4 rfl)))⟩
        | 6, _, _ => exact .inl ⟨⟨rfl, hd 3 rfl⟩, ⟨_, op_not rfl (hd 5 rfl), rfl⟩⟩
        | 7, _, _ => exact .inl ⟨rfl, ⟨_, op_pickF rfl (hd 3 rfl) (hd 6 rfl), rfl⟩⟩
        | i + 8, h, _ => omega
      · intro vs X1 hb hv hal hne
        replace HB := Hd.mk (bel_then HB.out hb)
        replace HE : Hd (Env X1 [⟨w.heap.size, 58, [rC f.n, rC f.d]⟩, ⟨w.heap.size + 1, 58, [rC g.n, rC g.d]⟩]) := ⟨HE.out.to hb⟩
        have e13 : vs 13 = .bool true := hv 7 (by decide) rfl
        simp only [putAll, List.foldl_cons, List.foldl_nil, Act.put, List.setIfInBounds_toArray, List.set_cons_succ, List.set_cons_zero, List.drop_succ_cons, List.drop_zero, e13]
        generalize vs 6 = s6
        generalize vs 7 = s7
        generalize vs 8 = s8
        generalize vs 9 = s9
        generalize vs 10 = s10
        generalize vs 11 = s11
        generalize vs 12 = s12
        clear hv hal hne hb
        go_upto_region 2 with fail
        refine wp_region_vd 0 [] [] [] 70 [.bool false, .slice none 0 0] [] (by rfl) alloc_whole ?_ ?_
        · intro i hi hA aa wx hb hs hd
          match i, hi, hA with
          | i + 0, h, _ => omega
        · intro vs X2 hb hv hal hne
          replace HB := Hd.mk (bel_then HB.out hb)
          replace HE : Hd (Env X2 [⟨w.heap.size, 58, [rC f.n, rC f.d]⟩, ⟨w.heap.size + 1, 58, [rC g.n, rC g.d]⟩]) := ⟨HE.out.to hb⟩
          simp only [putAll, List.foldl_cons, List.foldl_nil, Act.put, List.setIfInBounds_toArray, List.set_cons_succ, List.set_cons_zero, List.drop_succ_cons, List.drop_zero]
          clear hv hal hne hb
          go_wp2_with fail
          refine bodyPost_ret (v := .tuple #[.int .i64 0, .int .i64 2]) (by simp [results, Try.results58, go_sem]) rfl ?_
          exact ⟨_, rfl, HB.out, _, _, rfl, rfl, rfl⟩
    · have hf' : f.ok = false := by simpa using hf
      have HOf := Hd.mk hf'
      clear hf hf' hno
      go_enter Try.func58, Try.ntmps58
      go_upto_region 1 with fail
      obtain ⟨W0, hW0⟩ : ∃ W : World, W = (w.alloc (.cells #[u0, x0, y0, z0] 58)).alloc (.cells #[u1, x1, y1, z1] 58) := ⟨_, rfl⟩
      rw [← hW0]
      obtain ⟨he, hb⟩ := env_two (cp2 p0 q0) (cp2 p1 q1) hW0
      have HE := Hd.mk he
      have HB := Hd.mk hb
      clear he hb hW0
      refine wp_region_vd 8 [6, 7, 8, 9, 10, 11, 12, 13] [2, 3, 7] [] 70 [.bool false, .slice none 0 0] [isL [rC f.n, rC f.d], isV (.bool false), isV (.bool true), isV (.bool true), SP.any, SP.any, SP.any, isV (.bool true)] (by rfl) alloc_whole ?_ ?_
      · intro i hi hA aa wx hb hs hd
        match i, hi, hA with
        | 0, _, _ => exact .inl ⟨rfl, op_ldR rfl rfl (hs 2 rfl) ((HE.out.to hb).get 0 rfl)⟩
        | 1, _, _ => exact .inl ⟨rfl, wp_b HOf.out (op_call1 rfl rfl Try.call50 (ValidRat_got f _ _ (hd 0 rfl)))⟩
        | 2, _, _ => exact .inl ⟨rfl, ⟨_, op_not rfl (hd 1 rfl), rfl⟩⟩
        | 3, _, _ => exact .inl ⟨rfl, op_mv rfl (hd 2 rfl)⟩
        | 4, _, _ => exact .inr ⟨⟨rfl, hd 3 rfl⟩, trivial⟩
        | 5, _, _ => exact .inr ⟨⟨rfl, hd 3 rfl⟩, trivial⟩
        | 6, _, _ => exact .inr ⟨⟨rfl, hd 3 rfl⟩, trivial⟩
        | 7, _, _ => exact .inl ⟨rfl, ⟨_, op_pickT rfl (hd 3 rfl) rfl, rfl⟩⟩
        | i + 8, h, _ => omega
      · intro vs X1 hb hv hal hne
        replace HB := Hd.mk (bel_then HB.out hb)
        replace HE : Hd (Env X1 [⟨w.heap.size, 58, [rC f.n, rC f.d]⟩, ⟨w.heap.size + 1, 58, [rC g.n, rC g.d]⟩]) := ⟨HE.out.to hb⟩
        have e13 : vs 13 = .bool true := hv 7 (by decide) rfl
        simp only [putAll, List.foldl_cons, List.foldl_nil, Act.put, List.setIfInBounds_toArray, List.set_cons_succ, List.set_cons_zero, List.drop_succ_cons, List.drop_zero, e13]
        generalize vs 6 = s6
        generalize vs 7 = s7
        generalize vs 8 = s8
        generalize vs 9 = s9
        generalize vs 10 = s10
        generalize vs 11 = s11
        generalize vs 12 = s12
        clear hv hal hne hb
        go_upto_region 2 with fail
        refine wp_region_vd 0 [] [] [] 70 [.bool false, .slice none 0 0] [] (by rfl) alloc_whole ?_ ?_
        · intro i hi hA aa wx hb hs hd
          match i, hi, hA with
          | i + 0, h, _ => omega
        · intro vs X2 hb hv hal hne
          replace HB := Hd.mk (bel_then HB.out hb)
          replace HE : Hd (Env X2 [⟨w.heap.size, 58, [rC f.n, rC f.d]⟩, ⟨w.heap.size + 1, 58, [rC g.n, rC g.d]⟩]) := ⟨HE.out.to hb⟩
          simp only [putAll, List.foldl_cons, List.foldl_nil, Act.put, List.setIfInBounds_toArray, List.set_cons_succ, List.set_cons_zero, List.drop_succ_cons, List.drop_zero]
          clear hv hal hne hb
          go_wp2_with fail
          refine bodyPost_ret (v := .tuple #[.int .i64 0, .int .i64 2]) (by simp [results, Try.results58, go_sem]) rfl ?_
          exact ⟨_, rfl, HB.out, _, _, rfl, rfl, rfl⟩
set_option maxRecDepth 100000 in
set_option maxHeartbeats 1000000 in
theorem RatFloor_got (f : RQ) (v0 : Value) (w : World) (h0 : (isL [rC f.n, rC f.d]).p v0 w) :
    Calls Try.prog 56 #[v0] w (Got w (isP (isZ (rfn f)) (isV (.int .i64 (rfe f)))).p) := by
  obtain ⟨u0, x0, y0, z0, rfl, p0, q0⟩ := isL_two.1 h0
  clear h0
  by_cases hf : f.ok = true
  · obtain ⟨l1, l2⟩ := ok_lens hf p0 q0
    have HK1 := Hd.mk (RQ.ok_n hf)
    have HK2 := Hd.mk (RQ.ok_d hf)
    have HB0 : Hd (f.d.val ≠ 0) := ⟨by have := RQ.ok_pos hf; omega⟩
    have HOK : Hd ([f].all RQ.ok = true) := ⟨by rw [all_rq1]; exact hf⟩
    have l3 : ln (f.n.val / f.d.val).natAbs ≤ 256 := Nat.le_trans (ln_mono (Int.natAbs_ediv_le_natAbs _ _)) l1
    have e1 : rfn f = f.n.val / f.d.val := if_pos hf
    have e2 : rfe f = 0 := if_pos hf
    rw [e1, e2]
    clear e1 e2 hf
    go_enter Try.func56, Try.ntmps56
    go_upto_region 1 with fail
    obtain ⟨W0, hW0⟩ : ∃ W : World, W = (w.alloc (.cells #[u0, x0, y0, z0] 58)).alloc (.cells #[Value.bool false, Value.slice none 0 0] 24) := ⟨_, rfl⟩
    rw [← hW0]
    obtain ⟨he, hb⟩ := env_two (cp2 p0 q0) (cp1 (cp0 _)) hW0
    have HE := Hd.mk he
    have HB := Hd.mk hb
    clear he hb hW0
    refine wp_region_vd 4 [6, 7, 8, 9] [3] [] 70 [.bool false, .slice none 0 0] [isL [rC f.n, rC f.d], isRats [f], isV (.bool true), isV (.bool false)] (by rfl) alloc_whole ?_ ?_
    · intro i hi hA aa wx hb hs hd
      match i, hi, hA with
      | 0, _, _ => exact .inl ⟨rfl, op_ldR rfl rfl (hs 1 rfl) ((HE.out.to hb).get 0 rfl)⟩
      | 1, _, _ => exact .inl ⟨rfl, op_bsR1 rfl rfl (hd 0 rfl)⟩
      | 2, _, _ => exact .inl ⟨rfl, wp_b HOK.out (op_call1 rfl rfl Try.call102 (validRats_got [f] (by show 1 ≤ 2; omega) _ _ (hd 1 rfl)))⟩
      | 3, _, _ => exact .inl ⟨rfl, ⟨_, op_not rfl (hd 2 rfl), rfl⟩⟩
      | i + 4, h, _ => omega
    · intro vs X1 hb hv hal hne
      replace HB := Hd.mk (bel_then HB.out hb)
      replace HE : Hd (Env X1 [⟨w.heap.size, 58, [rC f.n, rC f.d]⟩, ⟨w.heap.size + 1, 24, [zC 0]⟩]) := ⟨HE.out.to hb⟩
      have e9 : vs 9 = .bool false := hv 3 (by decide) rfl
      simp only [putAll, List.foldl_cons, List.foldl_nil, Act.put, List.setIfInBounds_toArray, List.set_cons_succ, List.set_cons_zero, List.drop_succ_cons, List.drop_zero, e9]
      generalize vs 6 = s6
      generalize vs 7 = s7
      generalize vs 8 = s8
      clear hv hal hne hb
      go_upto_region 3 with fail
      refine wp_region_vs 12 [12, 13, 14, 15, 16, 17, 18, 11, 19, 20, 4, 5] [0, 3, 7, 8, 9] [10, 11] 70 [.bool false, .slice none 0 0] [isV (.pointer (some ⟨w.heap.size, 0, none⟩)), isL [rC f.n], isZ f.n.val, isV (.pointer (some ⟨w.heap.size, 2, none⟩)), isL [rC f.d], isZ f.d.val, isZZ (f.n.val / f.d.val) (f.n.val % f.d.val), isZZ (f.n.val / f.d.val) (f.n.val % f.d.val), isZ (f.n.val / f.d.val), isZ (f.n.val % f.d.val), SP.any, SP.any] (by kernel_rfl) (by kernel_rfl) (by kernel_rfl) (by rfl) alloc_whole (fun d v c a w h => by cases d <;> exact h) ?_ ?_
      · intro i hi hA aa wx hb hs hd
        match i, hi, hA with
        | 0, _, _ => exact ⟨_, op_faR0 rfl (hs 1 rfl), rfl⟩
        | 1, _, _ => exact op_ldI rfl rfl (hd 0 rfl) ((HE.out.to hb).get 0 rfl).a0
        | 2, _, _ => exact op_call1 rfl rfl Try.call69 (of_rz f.n HK1.out _ _ (hd 1 rfl))
        | 3, _, _ => exact ⟨_, op_faR1 rfl (hs 1 rfl), rfl⟩
        | 4, _, _ => exact op_ldI rfl rfl (hd 3 rfl) ((HE.out.to hb).get 0 rfl).a2
        | 5, _, _ => exact op_call1 rfl rfl Try.call69 (of_rz f.d HK2.out _ _ (hd 4 rfl))
        | 6, _, _ => exact op_call2 rfl rfl Try.call90 (wdiv_got f.n.val f.d.val HB0.out _ _ _ (hd 2 rfl) (hd 5 rfl) (by omega) (by omega))
        | 7, _, _ => exact op_mv rfl (hd 6 rfl)
        | 8, _, _ => exact zz_fst rfl (hd 7 rfl)
        | 9, _, _ => exact zz_snd rfl (hd 7 rfl)
        | 10, _, h => cases h
        | 11, _, h => cases h
        | i + 12, h, _ => omega
      · intro vs X2 hb hv hal hne
        have HL0 := Hd.mk (HE.out.lt)
        have HBW := HB
        replace HB := Hd.mk (bel_then HB.out hb)
        replace HE : Hd (Env X2 [⟨w.heap.size, 58, [rC f.n, rC f.d]⟩, ⟨w.heap.size + 1, 24, [zC 0]⟩]) := ⟨HE.out.to hb⟩
        obtain ⟨g4, e4, l4, b4⟩ : ∃ g, vs 4 = .pointer (some ⟨g, 0, none⟩) ∧ _ := hal 10 rfl
        have t19 : (isZ (f.n.val / f.d.val)).p (vs 19) X2 := hv 8 (by decide) rfl
        obtain ⟨u19, y19, e19, c19⟩ := isL_one.1 (isL_isZ.2 t19)
        obtain ⟨g5, e5, l5, b5⟩ : ∃ g, vs 5 = .pointer (some ⟨g, 0, none⟩) ∧ _ := hal 11 rfl
        have t20 : (isZ (f.n.val % f.d.val)).p (vs 20) X2 := hv 9 (by decide) rfl
        obtain ⟨u20, y20, e20, c20⟩ := isL_one.1 (isL_isZ.2 t20)
        simp only [putAll, List.foldl_cons, List.foldl_nil, Act.put, List.setIfInBounds_toArray, List.set_cons_succ, List.set_cons_zero, List.drop_succ_cons, List.drop_zero, e4, e19, e5, e20]
        generalize vs 12 = s12
        generalize vs 13 = s13
        generalize vs 14 = s14
        generalize vs 15 = s15
        generalize vs 16 = s16
        generalize vs 17 = s17
        generalize vs 18 = s18
        generalize vs 11 = s11
        replace HE : Hd (Env X2 [⟨w.heap.size, 58, [rC f.n, rC f.d]⟩, ⟨w.heap.size + 1, 24, [zC 0]⟩, ⟨g4, 70, [aC]⟩]) := ⟨Env.addne (e := ⟨g4, 70, [aC]⟩) HE.out ⟨_, b4, cp1 (cpz _)⟩ (fun e' he => Nat.ne_of_lt (Nat.lt_of_lt_of_le (HL0.out e' he) l4))⟩
        have G4 : Hd (w.heap.size ≤ g4) := ⟨Nat.le_trans HBW.out.size l4⟩
        clear l4 b4
        replace HE : Hd (Env X2 [⟨w.heap.size, 58, [rC f.n, rC f.d]⟩, ⟨w.heap.size + 1, 24, [zC 0]⟩, ⟨g4, 70, [aC]⟩, ⟨g5, 70, [aC]⟩]) := ⟨Env.addne (e := ⟨g5, 70, [aC]⟩) HE.out ⟨_, b5, cp1 (cpz _)⟩ (fun e' he => (List.mem_append.1 (show e' ∈ _ ++ [_] from he)).elim (fun he => Nat.ne_of_lt (Nat.lt_of_lt_of_le (HL0.out e' he) l5)) (fun he => by rw [List.mem_singleton.1 he]; exact ptr_ne (by rw [← e4, ← e5]; exact hne 10 11 rfl rfl (by decide))))⟩
        have G5 : Hd (w.heap.size ≤ g5) := ⟨Nat.le_trans HBW.out.size l5⟩
        clear l5 b5
        clear HL0 HBW e4 e5
        refine wpList_st rfl rfl rfl rfl rfl (sto_W c19 (Slot.one _) (HE.out.get 2 rfl)) ?_
        have HE' : Env (putAt X2 g4 0 u19 y19) [⟨w.heap.size, 58, [rC f.n, rC f.d]⟩, ⟨w.heap.size + 1, 24, [zC 0]⟩, ⟨g4, 70, [zC (f.n.val / f.d.val)]⟩, ⟨g5, 70, [aC]⟩] := HE.out.put1 2 rfl c19
        have HB' := below_putAt (o := 0) (u := u19) (v := y19) HB.out (show w.heap.size ≤ g4 from G4.out)
        replace c20 := cp_at c20 (u := u19) (v := y19) (Slot.one _) (HE.out.get 2 rfl)
        generalize putAt X2 g4 0 u19 y19 = X3 at *
        replace HE := Hd.mk HE'
        replace HB := Hd.mk HB'
        clear HE' HB'
        refine wpList_st rfl rfl rfl rfl rfl (sto_W c20 (Slot.one _) (HE.out.get 3 rfl)) ?_
        have HE' : Env (putAt X3 g5 0 u20 y20) [⟨w.heap.size, 58, [rC f.n, rC f.d]⟩, ⟨w.heap.size + 1, 24, [zC 0]⟩, ⟨g4, 70, [zC (f.n.val / f.d.val)]⟩, ⟨g5, 70, [zC (f.n.val % f.d.val)]⟩] := HE.out.put1 3 rfl c20
        have HB' := below_putAt (o := 0) (u := u20) (v := y20) HB.out (show w.heap.size ≤ g5 from G5.out)
        generalize putAt X3 g5 0 u20 y20 = X4 at *
        replace HE := Hd.mk HE'
        replace HB := Hd.mk HB'
        clear HE' HB'
        clear hv hal hne hb
        go_upto_region 4 with fail
        refine wp_region_vd 2 [21, 22] [] [] 70 [.bool false, .slice none 0 0] [isZ (f.n.val / f.d.val), isZ (f.n.val / f.d.val)] (by rfl) alloc_whole ?_ ?_
        · intro i hi hA aa wx hb hs hd
          match i, hi, hA with
          | 0, _, _ => exact .inl ⟨rfl, op_ldWz rfl rfl (hs 4 rfl) ((HE.out.to hb).get 2 rfl).a0⟩
          | 1, _, _ => exact .inl ⟨rfl, op_call1 rfl rfl Try.call72 (value_got (f.n.val / f.d.val) _ _ (hd 0 rfl) (by omega))⟩
          | i + 2, h, _ => omega
        · intro vs X5 hb hv hal hne
          replace HB := Hd.mk (bel_then HB.out hb)
          replace HE : Hd (Env X5 [⟨w.heap.size, 58, [rC f.n, rC f.d]⟩, ⟨w.heap.size + 1, 24, [zC 0]⟩, ⟨g4, 70, [zC (f.n.val / f.d.val)]⟩, ⟨g5, 70, [zC (f.n.val % f.d.val)]⟩]) := ⟨HE.out.to hb⟩
          have t22 : (isZ (f.n.val / f.d.val)).p (vs 22) X5 := hv 1 (by decide) rfl
          obtain ⟨u22, y22, e22, c22⟩ := isL_one.1 (isL_isZ.2 t22)
          simp only [putAll, List.foldl_cons, List.foldl_nil, Act.put, List.setIfInBounds_toArray, List.set_cons_succ, List.set_cons_zero, List.drop_succ_cons, List.drop_zero, e22]
          generalize vs 21 = s21
          refine wpList_st rfl rfl rfl rfl rfl (sto_I c22 (Slot.one _) (HE.out.get 1 rfl)) ?_
          have HE' : Env (putAt X5 (w.heap.size + 1) 0 u22 y22) [⟨w.heap.size, 58, [rC f.n, rC f.d]⟩, ⟨w.heap.size + 1, 24, [zC (f.n.val / f.d.val)]⟩, ⟨g4, 70, [zC (f.n.val / f.d.val)]⟩, ⟨g5, 70, [zC (f.n.val % f.d.val)]⟩] := HE.out.put1 1 rfl c22
          have HB' := below_putAt (o := 0) (u := u22) (v := y22) HB.out (show w.heap.size ≤ w.heap.size + 1 from by omega)
          generalize putAt X5 (w.heap.size + 1) 0 u22 y22 = X6 at *
          replace HE := Hd.mk HE'
          replace HB := Hd.mk HB'
          clear HE' HB'
          clear hv hal hne hb
          go_wp2_with fail
          obtain ⟨r0a, r0b, k0a, k0b, h0a⟩ := (HE.out.get 1 rfl).cells1
          refine bodyPost_ret (v := .tuple #[.agg #[r0a, r0b], .int .i64 0]) (by simp [results, Try.results56, go_sem, k0a, k0b]) rfl ?_
          exact ⟨_, rfl, HB.out, _, _, rfl, isL_isZ.1 (isL_one.2 ⟨_, _, rfl, h0a⟩), rfl⟩
  · have hf' : f.ok = false := by simpa using hf
    have HOK : Hd ([f].all RQ.ok = false) := ⟨by rw [all_rq1]; exact hf'⟩
    have e1 : rfn f = 0 := if_neg hf
    have e2 : rfe f = 2 := if_neg hf
    rw [e1, e2]
    clear e1 e2 hf hf'
    go_enter Try.func56, Try.ntmps56
    go_upto_region 1 with fail
    obtain ⟨W0, hW0⟩ : ∃ W : World, W = (w.alloc (.cells #[u0, x0, y0, z0] 58)).alloc (.cells #[Value.bool false, Value.slice none 0 0] 24) := ⟨_, rfl⟩
    rw [← hW0]
    obtain ⟨he, hb⟩ := env_two (cp2 p0 q0) (cp1 (cp0 _)) hW0
    have HE := Hd.mk he
    have HB := Hd.mk hb
    clear he hb hW0
    refine wp_region_vd 4 [6, 7, 8, 9] [3] [] 70 [.bool false, .slice none 0 0] [isL [rC f.n, rC f.d], isRats [f], isV (.bool false), isV (.bool true)] (by rfl) alloc_whole ?_ ?_
    · intro i hi hA aa wx hb hs hd
      match i, hi, hA with
      | 0, _, _ => exact .inl ⟨rfl, op_ldR rfl rfl (hs 1 rfl) ((HE.out.to hb).get 0 rfl)⟩
      | 1, _, _ => exact .inl ⟨rfl, op_bsR1 rfl rfl (hd 0 rfl)⟩
      | 2, _, _ => exact .inl ⟨rfl, wp_b HOK.out (op_call1 rfl rfl Try.call102 (validRats_got [f] (by show 1 ≤ 2; omega) _ _ (hd 1 rfl)))⟩
      | 3, _, _ => exact .inl ⟨rfl, ⟨_, op_not rfl (hd 2 rfl), rfl⟩⟩
      | i + 4, h, _ => omega
    · intro vs X1 hb hv hal hne
      replace HB := Hd.mk (bel_then HB.out hb)
      replace HE : Hd (Env X1 [⟨w.heap.size, 58, [rC f.n, rC f.d]⟩, ⟨w.heap.size + 1, 24, [zC 0]⟩]) := ⟨HE.out.to hb⟩
      have e9 : vs 9 = .bool true := hv 3 (by decide) rfl
      simp only [putAll, List.foldl_cons, List.foldl_nil, Act.put, List.setIfInBounds_toArray, List.set_cons_succ, List.set_cons_zero, List.drop_succ_cons, List.drop_zero, e9]
      generalize vs 6 = s6
      generalize vs 7 = s7
      generalize vs 8 = s8
      clear hv hal hne hb
      go_upto_region 2 with fail
      refine wp_region_vd 1 [10] [0] [] 70 [.bool false, .slice none 0 0] [isZ 0] (by rfl) alloc_whole ?_ ?_
      · intro i hi hA aa wx hb hs hd
        match i, hi, hA with
        | 0, _, _ => exact .inl ⟨rfl, op_b0I rfl⟩
        | i + 1, h, _ => omega
      · intro vs X2 hb hv hal hne
        replace HB := Hd.mk (bel_then HB.out hb)
        replace HE : Hd (Env X2 [⟨w.heap.size, 58, [rC f.n, rC f.d]⟩, ⟨w.heap.size + 1, 24, [zC 0]⟩]) := ⟨HE.out.to hb⟩
        have t10 : (isZ 0).p (vs 10) X2 := hv 0 (by decide) rfl
        obtain ⟨u10, y10, e10, c10⟩ := isL_one.1 (isL_isZ.2 t10)
        simp only [putAll, List.foldl_cons, List.foldl_nil, Act.put, List.setIfInBounds_toArray, List.set_cons_succ, List.set_cons_zero, List.drop_succ_cons, List.drop_zero, e10]
        refine wpList_st rfl rfl rfl rfl rfl (sto_I c10 (Slot.one _) (HE.out.get 1 rfl)) ?_
        have HE' : Env (putAt X2 (w.heap.size + 1) 0 u10 y10) [⟨w.heap.size, 58, [rC f.n, rC f.d]⟩, ⟨w.heap.size + 1, 24, [zC 0]⟩] := HE.out.put1 1 rfl c10
        have HB' := below_putAt (o := 0) (u := u10) (v := y10) HB.out (show w.heap.size ≤ w.heap.size + 1 from by omega)
        generalize putAt X2 (w.heap.size + 1) 0 u10 y10 = X3 at *
        replace HE := Hd.mk HE'
        replace HB := Hd.mk HB'
        clear HE' HB'
        clear hv hal hne hb
        go_wp2_with fail
        obtain ⟨r0a, r0b, k0a, k0b, h0a⟩ := (HE.out.get 1 rfl).cells1
        refine bodyPost_ret (v := .tuple #[.agg #[r0a, r0b], .int .i64 2]) (by simp [results, Try.results56, go_sem, k0a, k0b]) rfl ?_
        exact ⟨_, rfl, HB.out, _, _, rfl, isL_isZ.1 (isL_one.2 ⟨_, _, rfl, h0a⟩), rfl⟩
set_option maxRecDepth 100000 in
set_option maxHeartbeats 1000000 in
theorem SameRat_got (a b : Int) (v0 v1 : Value) (w : World) (h0 : (isL [zC a, zC b]).p v0 w) (h1 : (isL [zC a, zC b]).p v1 w) :
    Calls Try.prog 54 #[v0, v1] w (Got w (isV (.bool true)).p) := by
  obtain ⟨u0, x0, y0, z0, rfl, p0, q0⟩ := isL_two.1 h0
  obtain ⟨u1, x1, y1, z1, rfl, p1, q1⟩ := isL_two.1 h1
  clear h0 h1
  go_enter Try.func54, Try.ntmps54
  go_upto_region 1 with fail
  obtain ⟨W0, hW0⟩ : ∃ W : World, W = (w.alloc (.cells #[u0, x0, y0, z0] 58)).alloc (.cells #[u1, x1, y1, z1] 58) := ⟨_, rfl⟩
  rw [← hW0]
  obtain ⟨he, hb⟩ := env_two (cp2 p0 q0) (cp2 p1 q1) hW0
  have HE := Hd.mk he
  have HB := Hd.mk hb
  clear he hb hW0
  refine wp_region_vd 12 [5, 6, 7, 8, 9, 10, 11, 12, 13, 14, 15, 16] [0, 2, 5, 6, 8, 11] [] 70 [.bool false, .slice none 0 0] [isV (.pointer (some ⟨w.heap.size, 0, none⟩)), isZ a, isV (.pointer (some ⟨w.heap.size + 1, 0, none⟩)), isZ a, isV (.bool true), isV (.bool true), isV (.pointer (some ⟨w.heap.size, 2, none⟩)), isZ b, isV (.pointer (some ⟨w.heap.size + 1, 2, none⟩)), isZ b, isV (.bool true), isV (.bool true)] (by rfl) alloc_whole ?_ ?_
  · intro i hi hA aa wx hb hs hd
    match i, hi, hA with
    | 0, _, _ => exact .inl ⟨rfl, ⟨_, op_faR0 rfl (hs 2 rfl), rfl⟩⟩
    | 1, _, _ => exact .inl ⟨rfl, op_ldIz rfl rfl (hd 0 rfl) ((HE.out.to hb).get 0 rfl).a0⟩
    | 2, _, _ => exact .inl ⟨rfl, ⟨_, op_faR0 rfl (hs 3 rfl), rfl⟩⟩
    | 3, _, _ => exact .inl ⟨rfl, op_ldIz rfl rfl (hd 2 rfl) ((HE.out.to hb).get 1 rfl).a0⟩
    | 4, _, _ => exact .inl ⟨rfl, wp_b (decide_eq_true rfl) (op_call2 rfl rfl Try.call14 (same_zz a a _ _ _ (hd 1 rfl) (hd 3 rfl)))⟩
    | 5, _, _ => exact .inl ⟨rfl, op_mv rfl (hd 4 rfl)⟩
    | 6, _, _ => exact .inl ⟨⟨rfl, hd 5 rfl⟩, ⟨_, op_faR1 rfl (hs 2 rfl), rfl⟩⟩
    | 7, _, _ => exact .inl ⟨⟨rfl, hd 5 rfl⟩, op_ldIz rfl rfl (hd 6 rfl) ((HE.out.to hb).get 0 rfl).a2⟩
    | 8, _, _ => exact .inl ⟨⟨rfl, hd 5 rfl⟩, ⟨_, op_faR1 rfl (hs 3 rfl), rfl⟩⟩
    | 9, _, _ => exact .inl ⟨⟨rfl, hd 5 rfl⟩, op_ldIz rfl rfl (hd 8 rfl) ((HE.out.to hb).get 1 rfl).a2⟩
    | 10, _, _ => exact .inl ⟨⟨rfl, hd 5 rfl⟩, wp_b (decide_eq_true rfl) (op_call2 rfl rfl Try.call14 (same_zz b b _ _ _ (hd 7 rfl) (hd 9 rfl)))⟩
    | 11, _, _ => exact .inl ⟨rfl, ⟨_, op_pickT rfl (hd 5 rfl) (hd 10 rfl), rfl⟩⟩
    | i + 12, h, _ => omega
  · intro vs X1 hb hv hal hne
    replace HB := Hd.mk (bel_then HB.out hb)
    replace HE : Hd (Env X1 [⟨w.heap.size, 58, [zC a, zC b]⟩, ⟨w.heap.size + 1, 58, [zC a, zC b]⟩]) := ⟨HE.out.to hb⟩
    have e16 : vs 16 = .bool true := hv 11 (by decide) rfl
    simp only [putAll, List.foldl_cons, List.foldl_nil, Act.put, List.setIfInBounds_toArray, List.set_cons_succ, List.set_cons_zero, List.drop_succ_cons, List.drop_zero, e16]
    generalize vs 5 = s5
    generalize vs 6 = s6
    generalize vs 7 = s7
    generalize vs 8 = s8
    generalize vs 9 = s9
    generalize vs 10 = s10
    generalize vs 11 = s11
    generalize vs 12 = s12
    generalize vs 13 = s13
    generalize vs 14 = s14
    generalize vs 15 = s15
    clear hv hal hne hb
    go_wp2_with fail
    go_ret
    exact ⟨_, rfl, HB.out, rfl⟩
end Go.Proofs.Ytcjcpfafalkceaa
