/- Part 28 of the texts behind this claim. -/
import Derived.Test.YtcjcpfafalkceaaFq27
set_option linter.unusedVariables false
set_option linter.unusedSimpArgs false
namespace Go.Proofs.Ytcjcpfafalkceaa
open Go.RowKit
structure RQ where
  n : Raw
  d : Raw
def RQ.ok (f : RQ) : Bool := f.n.ok && f.d.ok && (decide (0 < f.d.val) && decide (Nat.gcd f.n.val.natAbs f.d.val.natAbs = 1))
def isRaws (rs : List Raw) : SP := ⟨fun v w => ∃ g, v = .slice (some ⟨g, 0, none⟩) rs.length rs.length ∧ RawsAt rs g w, fun v w w' ⟨g, h, hr⟩ hb => ⟨g, h, hr.to hb⟩⟩
def RatsAt (fs : List RQ) (g : Nat) (w : World) : Prop := ∀ i f, fs[i]? = some f → CAt w g (i * 4) (rC f.n) ∧ CAt w g (i * 4 + 2) (rC f.d)
theorem RatsAt.to {fs : List RQ} {g : Nat} {w w' : World} (h : RatsAt fs g w) (hb : Below w.heap.size w w') : RatsAt fs g w' := fun i f hf => ⟨(h i f hf).1.to hb, (h i f hf).2.to hb⟩
def isRats (fs : List RQ) : SP := ⟨fun v w => ∃ g, v = .slice (some ⟨g, 0, none⟩) fs.length fs.length ∧ RatsAt fs g w, fun v w w' ⟨g, h, hr⟩ hb => ⟨g, h, hr.to hb⟩⟩
theorem CAt.z {w : World} {g o : Nat} {r : Raw} (h : CAt w g o (rC r)) (ho : r.ok = true) : CAt w g o (zC r.val) := by
  obtain ⟨u, v, h1, h2, h3⟩ := h
  exact ⟨u, v, h1, h2, rC_zC ho h3⟩
section
variable {w : World} {x y : Raw} {f g : RQ}
theorem of_rz (r : Raw) (ho : r.ok = true) (v1 : Value) (w : World) (h1 : (isL [rC r]).p v1 w) : Calls Try.prog 69 #[v1] w (Got w (isZ r.val).p) := by
  obtain ⟨a, b, rfl, h⟩ := isL_one.1 h1
  exact of_got r.val _ _ (isL_isZ.1 (isL_one.2 ⟨a, b, rfl, rC_zC ho h⟩))
theorem rOf_rz (r : Raw) (ho : r.ok = true) (v1 : Value) (w : World) (h1 : (isL [rC r]).p v1 w) : Calls Try.prog 32 #[v1] w (Got w (isZ r.val).p) := by
  obtain ⟨a, b, rfl, h⟩ := isL_one.1 h1
  exact rOf_got r.val _ _ (isL_isZ.1 (isL_one.2 ⟨a, b, rfl, rC_zC ho h⟩))
theorem rValid_rz (r : Raw) (v1 : Value) (w : World) (h1 : (isL [rC r]).p v1 w) : Calls Try.prog 22 #[v1] w (Got w (isV (.bool r.ok)).p) := rvalid_raw r v1 w h1
theorem valid_got (rs : List Raw) (hn : rs.length ≤ 2) (v1 : Value) (w : World) (h1 : (isRaws rs).p v1 w) : Calls Try.prog 68 #[v1] w (Got w (isV (.bool (rs.all Raw.ok))).p) := by
  obtain ⟨g, rfl, h⟩ := h1
  exact (valid_calls rs g _ w h rfl hn).mono fun e w' h => same_got h
theorem small1_got (w : World) : Calls Try.prog 78 #[.int .u64 1] w (Got w (isN 1).p) := (small_calls 1 (by decide) w).mono fun e w' h => h.got
theorem ncmp_got (m n : Nat) (v1 v2 : Value) (w : World) (h1 : (isN m).p v1 w) (h2 : (isN n).p v2 w) : Calls Try.prog 115 #[v1, v2] w (Got w (isV (.int .i64 (cmpv m n))).p) :=
  n2 (fun A1 c1 A2 c2 h1 h2 => cmp_calls A1 c1 m A2 c2 n _ h1 h2) (fun e w' h => drew_got h) h1 h2
end
section
variable {Q : Exit → Act → World → Prop} {o : Oper} {a : Act} {w : World} {d : Nat} {y0 y1 : Operand} {x y : Raw} {f g : RQ}
theorem op_bsI (ho : o.op = .buildSlice 53 2 #[(0, y0), (1, y1)]) (hd : o.dst = some d) (h0 : (isL [rC x]).p (a.eval y0) w) (h1 : (isL [rC y]).p (a.eval y1) w) : o.wp Try.prog a w (Post a w d (isRaws [x, y]).p) Q := by
  obtain ⟨u, v, e0, k0⟩ := isL_one.1 h0
  obtain ⟨u', v', e1, k1⟩ := isL_one.1 h1
  have hr : (execOp a.eval o).run Try.prog w = .ok (.value (.slice (some ⟨w.heap.size, 0, none⟩) 2 2)) (w.alloc (.cells #[u, v, u', v'] 24)) := by
    generalize a.eval = ev at e0 e1 ⊢
    unfold execOp
    simp only [ho, List.map_toArray, List.map_cons, List.map_nil, e0, e1, Sem.run_bind, bs_I2, Result.andThen_ok, Sem.run_pure]
  have hb : Below w.heap.size w (w.alloc (.cells #[u, v, u', v'] 24)) := below_alloc (Below.refl _ _) _
  unfold Oper.wp
  rw [hr]
  show Post a w d _ (a.put o.dst _) _
  rw [hd]
  refine ⟨_, rfl, hb, w.heap.size, rfl, ?_⟩
  have hB : Blk (w.alloc (.cells #[u, v, u', v'] 24)) w.heap.size 24 [u, v, u', v'] := heap_alloc_new _ _
  obtain ⟨rfl, rfl, ha⟩ := k0
  obtain ⟨rfl, rfl, ha'⟩ := k1
  intro i r hr
  match i, hr with
  | 0, hr => obtain rfl : x = r := by simpa using hr
             exact ⟨cell_of hB rfl, cell_of hB rfl, Raw.at_to ha hb⟩
  | 1, hr => obtain rfl : y = r := by simpa using hr
             exact ⟨cell_of hB rfl, cell_of hB rfl, Raw.at_to ha' hb⟩
  | i + 2, hr => simp at hr
theorem op_bsR1 (ho : o.op = .buildSlice 127 1 #[(0, y0)]) (hd : o.dst = some d) (h0 : (isL [rC f.n, rC f.d]).p (a.eval y0) w) : o.wp Try.prog a w (Post a w d (isRats [f]).p) Q := by
  obtain ⟨u, v, u', v', e0, k0, k1⟩ := isL_two.1 h0
  have hr : (execOp a.eval o).run Try.prog w = .ok (.value (.slice (some ⟨w.heap.size, 0, none⟩) 1 1)) (w.alloc (.cells #[u, v, u', v'] 58)) := by
    generalize a.eval = ev at e0 ⊢
    unfold execOp
    simp only [ho, List.map_toArray, List.map_cons, List.map_nil, e0, Sem.run_bind, bs_R1, Result.andThen_ok, Sem.run_pure]
  have hb : Below w.heap.size w (w.alloc (.cells #[u, v, u', v'] 58)) := below_alloc (Below.refl _ _) _
  unfold Oper.wp
  rw [hr]
  show Post a w d _ (a.put o.dst _) _
  rw [hd]
  refine ⟨_, rfl, hb, w.heap.size, rfl, ?_⟩
  have hB : Blk (w.alloc (.cells #[u, v, u', v'] 58)) w.heap.size 58 [u, v, u', v'] := heap_alloc_new _ _
  intro i r hr
  match i, hr with
  | 0, hr => obtain rfl : f = r := by simpa using hr
             exact ⟨⟨u, v, cell_of hB rfl, cell_of hB rfl, (rC _).st _ _ _ _ k0 hb⟩, ⟨u', v', cell_of hB rfl, cell_of hB rfl, (rC _).st _ _ _ _ k1 hb⟩⟩
  | i + 1, hr => simp at hr
theorem op_bsR2 (ho : o.op = .buildSlice 127 2 #[(0, y0), (1, y1)]) (hd : o.dst = some d) (h0 : (isL [rC f.n, rC f.d]).p (a.eval y0) w) (h1 : (isL [rC g.n, rC g.d]).p (a.eval y1) w) : o.wp Try.prog a w (Post a w d (isRats [f, g]).p) Q := by
  obtain ⟨u, v, u', v', e0, k0, k1⟩ := isL_two.1 h0
  obtain ⟨x0, x1, x2, x3, e1, k2, k3⟩ := isL_two.1 h1
  have hr : (execOp a.eval o).run Try.prog w = .ok (.value (.slice (some ⟨w.heap.size, 0, none⟩) 2 2)) (w.alloc (.cells #[u, v, u', v', x0, x1, x2, x3] 58)) := by
    generalize a.eval = ev at e0 e1 ⊢
    unfold execOp
    simp only [ho, List.map_toArray, List.map_cons, List.map_nil, e0, e1, Sem.run_bind, bs_R2, Result.andThen_ok, Sem.run_pure]
  have hb : Below w.heap.size w (w.alloc (.cells #[u, v, u', v', x0, x1, x2, x3] 58)) := below_alloc (Below.refl _ _) _
  unfold Oper.wp
  rw [hr]
  show Post a w d _ (a.put o.dst _) _
  rw [hd]
  refine ⟨_, rfl, hb, w.heap.size, rfl, ?_⟩
  have hB : Blk (w.alloc (.cells #[u, v, u', v', x0, x1, x2, x3] 58)) w.heap.size 58 [u, v, u', v', x0, x1, x2, x3] := heap_alloc_new _ _
  intro i r hr
  match i, hr with
  | 0, hr => obtain rfl : f = r := by simpa using hr
             exact ⟨⟨u, v, cell_of hB rfl, cell_of hB rfl, (rC _).st _ _ _ _ k0 hb⟩, ⟨u', v', cell_of hB rfl, cell_of hB rfl, (rC _).st _ _ _ _ k1 hb⟩⟩
  | 1, hr => obtain rfl : g = r := by simpa using hr
             exact ⟨⟨x0, x1, cell_of hB rfl, cell_of hB rfl, (rC _).st _ _ _ _ k2 hb⟩, ⟨x2, x3, cell_of hB rfl, cell_of hB rfl, (rC _).st _ _ _ _ k3 hb⟩⟩
  | i + 2, hr => simp at hr
end
theorem rq_no {fs : List RQ} {k : Nat} {r : RQ} (h : fs[k]? = some r) (hr : r.ok = false) : false = fs.all RQ.ok := by
  symm
  rw [List.all_eq_false]
  exact ⟨r, List.mem_of_getElem? h, by simp [hr]⟩
theorem rq_yes {fs : List RQ} {k : Nat} {r : RQ} (h : fs[k]? = some r) (hr : r.ok = true) (ha : (fs.take k).all RQ.ok = true) : (fs.take (k + 1)).all RQ.ok = true := by
  rw [List.take_add_one, h, List.all_append, ha]
  simp [hr]
theorem cmpv_one {m : Nat} : decide (cmpv m 1 = 0) = decide (m = 1) := by
  apply decide_eq_decide.2
  unfold cmpv
  split
  · constructor <;> intro h <;> omega
  · split <;> (constructor <;> intro h <;> omega)
set_option maxHeartbeats 2000000 in
set_option maxRecDepth 100000 in
theorem validRats_got (fs : List RQ) (hn2 : fs.length ≤ 2) (v1 : Value) (w : World) (h1 : (isRats fs).p v1 w) : Calls Try.prog 102 #[v1] w (Got w (isV (.bool (fs.all RQ.ok))).p) := by
  obtain ⟨g, rfl, h⟩ := h1
  have H := Hd.mk h
  obtain ⟨n, hn⟩ : ∃ n, n = fs.length := ⟨_, rfl⟩
  rw [← hn] at hn2 ⊢
  have HN := Hd.mk hn
  clear h hn
  go_enter Try.func102, Try.ntmps102
  go_wp2
  go_loopw [7] (fun s wr => ∃ k : Nat, k ≤ n ∧ s = .int .i64 k ∧ (fs.take k).all RQ.ok = true ∧ Below w.heap.size w wr) (fun s _ => n - (intOf s).toNat)
  case atStart => exact ⟨0, Nat.zero_le _, rfl, rfl, Below.refl _ _⟩
  case round =>
    obtain ⟨k, hk, rfl, hall, hbel⟩ := hrel
    have HA := Hd.mk hall
    have HB := Hd.mk hbel
    clear hall hbel
    by_cases hlt : k < n
    · obtain ⟨f, hr⟩ : ∃ r, fs[k]? = some r := ⟨_, List.getElem?_eq_getElem (by have := HN.out; omega)⟩
      obtain ⟨⟨u, v, hc0, hc1, p1⟩, ⟨x, y, hc2, hc3, p2⟩⟩ := (H.out.to HB.out) k f hr
      have HR := Hd.mk hr
      clear hr
      obtain ⟨b1, A1, m1, c1, rfl, rfl⟩ := (rC _).nb _ _ _ p1
      obtain ⟨b2, A2, m2, c2, rfl, rfl⟩ := (rC _).nb _ _ _ p2
      by_cases hok : ([f.n, f.d].all Raw.ok) = true
      · have hk1 : f.n.ok = true ∧ f.d.ok = true := by simpa using hok
        have HK1 := Hd.mk hk1.1
        have HK2 := Hd.mk hk1.2
        have HOK := Hd.mk hok
        have l1 := Raw.ok_len hk1.1 p1.2.2.2.1
        have l2 := Raw.ok_len hk1.2 p2.2.2.2.1
        clear hok hk1
        by_cases hneg : f.d.val < 0
        · have HNO := Hd.mk (rq_no HR.out (show RQ.ok f = false by unfold RQ.ok; rw [decide_eq_false (show ¬ 0 < f.d.val by omega)]; simp))
          have HNEG := Hd.mk (decide_eq_true hneg)
          clear hneg
          go_upto_region 4 with fail
          obtain ⟨W0, hW0⟩ : ∃ W : World, W = wr.alloc (.cells #[.bool b1, .slice A1 m1 c1, .bool b2, .slice A2 m2 c2] 58) := ⟨_, rfl⟩
          rw [← hW0]
          obtain ⟨he, hb⟩ := env_one (cp2 p1 p2) hW0
          have HE := Hd.mk he
          replace HB := Hd.mk (below_then HB.out HB.out.size hb)
          clear he hb hW0
          refine wp_region_vg 33 [11, 12, 13, 14, 15, 16, 17, 18, 19, 20, 21, 22, 23, 24, 25, 26, 27, 28, 29, 30, 31, 32, 33, 34, 35, 36, 37, 38, 39, 40, 41, 42, 43] [0, 2, 6, 7, 8, 9, 11, 12, 18, 19, 32] [] 70 [.bool false, .slice none 0 0] [isV (.pointer (some ⟨wr.heap.size, 0, none⟩)), isL [rC f.n], isV (.pointer (some ⟨wr.heap.size, 2, none⟩)), isL [rC f.d], isRaws [f.n, f.d], isV (.bool true), isV (.bool false), isV (.bool false), isV (.pointer (some ⟨wr.heap.size, 2, none⟩)), isV (.pointer (some ⟨wr.heap.size, 2, none⟩)), isV (.bool true), isV (.bool true), isV (.bool true), SP.any, SP.any, SP.any, SP.any, SP.any, isV (.bool true), isV (.bool true), SP.any, SP.any, SP.any, SP.any, SP.any, SP.any, SP.any, SP.any, SP.any, SP.any, SP.any, SP.any, isV (.bool true)] (by kernel_rfl) (by kernel_rfl) (by kernel_rfl) (by rfl) alloc_whole (fun d v c a w h => by cases d <;> exact h) ?_ ?_
          · intro i hi hA aa wx hb hs hd
            match i, hi, hA with
            | 0, _, _ => exact .inl ⟨rfl, ⟨_, op_faR0 rfl (hs 4 rfl), rfl⟩⟩
            | 1, _, _ => exact .inl ⟨rfl, op_ldI rfl rfl (hd 0 rfl) ((HE.out.to hb).get 0 rfl).a0⟩
            | 2, _, _ => exact .inl ⟨rfl, ⟨_, op_faR1 rfl (hs 4 rfl), rfl⟩⟩
            | 3, _, _ => exact .inl ⟨rfl, op_ldI rfl rfl (hd 2 rfl) ((HE.out.to hb).get 0 rfl).a2⟩
            | 4, _, _ => exact .inl ⟨rfl, op_bsI rfl rfl (hd 1 rfl) (hd 3 rfl)⟩
            | 5, _, _ => exact .inl ⟨rfl, wp_b HOK.out (op_call1 rfl rfl Try.call68 (valid_got [f.n, f.d] (Nat.le_refl 2) _ _ (hd 4 rfl)))⟩
            | 6, _, _ => exact .inl ⟨rfl, ⟨_, op_not rfl (hd 5 rfl), rfl⟩⟩
            | 7, _, _ => exact .inl ⟨rfl, op_mv rfl (hd 6 rfl)⟩
            | 8, _, _ => exact .inl ⟨⟨rfl, hd 7 rfl⟩, ⟨_, op_faR1 rfl (hs 4 rfl), rfl⟩⟩
            | 9, _, _ => exact .inl ⟨⟨rfl, hd 7 rfl⟩, ⟨_, op_faI0 rfl (hd 8 rfl), rfl⟩⟩
            | 10, _, _ => exact .inl ⟨⟨rfl, hd 7 rfl⟩, wp_b HNEG.out (op_ldb rfl rfl (hd 9 rfl) (((HE.out.to hb).get 0 rfl).a2.z HK2.out))⟩
            | 11, _, _ => exact .inl ⟨rfl, ⟨_, op_pickF rfl (hd 7 rfl) (hd 10 rfl), rfl⟩⟩
            | 12, _, _ => exact .inl ⟨rfl, op_mv rfl (hd 11 rfl)⟩
            | 13, _, _ => exact .inr ⟨⟨rfl, hd 12 rfl⟩, trivial⟩
            | 14, _, _ => exact .inr ⟨⟨rfl, hd 12 rfl⟩, trivial⟩
            | 15, _, _ => exact .inr ⟨⟨rfl, hd 12 rfl⟩, trivial⟩
            | 16, _, _ => exact .inr ⟨⟨rfl, hd 12 rfl⟩, trivial⟩
            | 17, _, _ => exact .inr ⟨⟨rfl, hd 12 rfl⟩, trivial⟩
            | 18, _, _ => exact .inl ⟨rfl, ⟨_, op_pickT rfl (hd 12 rfl) rfl, rfl⟩⟩
            | 19, _, _ => exact .inl ⟨rfl, op_mv rfl (hd 18 rfl)⟩
            | 20, _, _ => exact .inr ⟨⟨rfl, hd 19 rfl⟩, trivial⟩
            | 21, _, _ => exact .inr ⟨⟨rfl, hd 19 rfl⟩, trivial⟩
            | 22, _, _ => exact .inr ⟨⟨rfl, hd 19 rfl⟩, trivial⟩
            | 23, _, _ => exact .inr ⟨⟨rfl, hd 19 rfl⟩, trivial⟩
            | 24, _, _ => exact .inr ⟨⟨rfl, hd 19 rfl⟩, trivial⟩
            | 25, _, _ => exact .inr ⟨⟨rfl, hd 19 rfl⟩, trivial⟩
            | 26, _, _ => exact .inr ⟨⟨rfl, hd 19 rfl⟩, trivial⟩
            | 27, _, _ => exact .inr ⟨⟨rfl, hd 19 rfl⟩, trivial⟩
            | 28, _, _ => exact .inr ⟨⟨rfl, hd 19 rfl⟩, trivial⟩
            | 29, _, _ => exact .inr ⟨⟨rfl, hd 19 rfl⟩, trivial⟩
            | 30, _, _ => exact .inr ⟨⟨rfl, hd 19 rfl⟩, trivial⟩
            | 31, _, _ => exact .inr ⟨⟨rfl, hd 19 rfl⟩, trivial⟩
            | 32, _, _ => exact .inl ⟨rfl, ⟨_, op_pickT rfl (hd 19 rfl) rfl, rfl⟩⟩
            | i + 33, h, _ => omega
          · intro vs X1 hb hv hal hne
            replace HB := Hd.mk (bel_then HB.out hb)
            replace HE : Hd (Env X1 [⟨wr.heap.size, 58, [rC f.n, rC f.d]⟩]) := ⟨HE.out.to hb⟩
            have e43 : vs 43 = .bool true := hv 32 (by decide) rfl
            simp only [putAll, List.foldl_cons, List.foldl_nil, Act.put, List.setIfInBounds_toArray, List.set_cons_succ, List.set_cons_zero, List.drop_succ_cons, List.drop_zero, e43]
            generalize vs 11 = s11
            generalize vs 12 = s12
            generalize vs 13 = s13
            generalize vs 14 = s14
            generalize vs 15 = s15
            generalize vs 16 = s16
            generalize vs 17 = s17
            generalize vs 18 = s18
            generalize vs 19 = s19
            generalize vs 20 = s20
            generalize vs 21 = s21
            generalize vs 22 = s22
            generalize vs 23 = s23
            generalize vs 24 = s24
            generalize vs 25 = s25
            generalize vs 26 = s26
            generalize vs 27 = s27
            generalize vs 28 = s28
            generalize vs 29 = s29
            generalize vs 30 = s30
            generalize vs 31 = s31
            generalize vs 32 = s32
            generalize vs 33 = s33
            generalize vs 34 = s34
            generalize vs 35 = s35
            generalize vs 36 = s36
            generalize vs 37 = s37
            generalize vs 38 = s38
            generalize vs 39 = s39
            generalize vs 40 = s40
            generalize vs 41 = s41
            generalize vs 42 = s42
            clear hv hal hne hb
            go_wp2_with fail
            go_ret
            exact ⟨_, rfl, HB.out, by show Value.bool false = _; rw [HNO.out]⟩
        · have HNEG := Hd.mk (decide_eq_false hneg)
          by_cases hz : f.d.val = 0
          · have HNO := Hd.mk (rq_no HR.out (show RQ.ok f = false by unfold RQ.ok; rw [decide_eq_false (show ¬ 0 < f.d.val by omega)]; simp))
            have HZ := Hd.mk (decide_eq_true (show ((ln f.d.val.natAbs : Nat) : Int) = 0 by rw [hz]; show ((ln 0 : Nat) : Int) = 0; rw [ln_zero]; rfl))
            clear hneg hz
            go_upto_region 4 with fail
            obtain ⟨W0, hW0⟩ : ∃ W : World, W = wr.alloc (.cells #[.bool b1, .slice A1 m1 c1, .bool b2, .slice A2 m2 c2] 58) := ⟨_, rfl⟩
            rw [← hW0]
            obtain ⟨he, hb⟩ := env_one (cp2 p1 p2) hW0
            have HE := Hd.mk he
            replace HB := Hd.mk (below_then HB.out HB.out.size hb)
            clear he hb hW0
            refine wp_region_vg 33 [11, 12, 13, 14, 15, 16, 17, 18, 19, 20, 21, 22, 23, 24, 25, 26, 27, 28, 29, 30, 31, 32, 33, 34, 35, 36, 37, 38, 39, 40, 41, 42, 43] [0, 2, 6, 7, 8, 9, 11, 12, 13, 14, 17, 18, 19, 32] [] 70 [.bool false, .slice none 0 0] [isV (.pointer (some ⟨wr.heap.size, 0, none⟩)), isL [rC f.n], isV (.pointer (some ⟨wr.heap.size, 2, none⟩)), isL [rC f.d], isRaws [f.n, f.d], isV (.bool true), isV (.bool false), isV (.bool false), isV (.pointer (some ⟨wr.heap.size, 2, none⟩)), isV (.pointer (some ⟨wr.heap.size, 2, none⟩)), isV (.bool false), isV (.bool false), isV (.bool false), isV (.pointer (some ⟨wr.heap.size, 2, none⟩)), isV (.pointer (some ⟨wr.heap.size, 3, none⟩)), isN f.d.val.natAbs, isV (.int .i64 (((ln f.d.val.natAbs : Nat) : Int))), isV (.bool true), isV (.bool true), isV (.bool true), SP.any, SP.any, SP.any, SP.any, SP.any, SP.any, SP.any, SP.any, SP.any, SP.any, SP.any, SP.any, isV (.bool true)] (by kernel_rfl) (by kernel_rfl) (by kernel_rfl) (by rfl) alloc_whole (fun d v c a w h => by cases d <;> exact h) ?_ ?_
            · intro i hi hA aa wx hb hs hd
              match i, hi, hA with
              | 0, _, _ => exact .inl ⟨rfl, ⟨_, op_faR0 rfl (hs 4 rfl), rfl⟩⟩
              | 1, _, _ => exact .inl ⟨rfl, op_ldI rfl rfl (hd 0 rfl) ((HE.out.to hb).get 0 rfl).a0⟩
              | 2, _, _ => exact .inl ⟨rfl, ⟨_, op_faR1 rfl (hs 4 rfl), rfl⟩⟩
              | 3, _, _ => exact .inl ⟨rfl, op_ldI rfl rfl (hd 2 rfl) ((HE.out.to hb).get 0 rfl).a2⟩
              | 4, _, _ => exact .inl ⟨rfl, op_bsI rfl rfl (hd 1 rfl) (hd 3 rfl)⟩
              | 5, _, _ => exact .inl ⟨rfl, wp_b HOK.out (op_call1 rfl rfl Try.call68 (valid_got [f.n, f.d] (Nat.le_refl 2) _ _ (hd 4 rfl)))⟩
              | 6, _, _ => exact .inl ⟨rfl, ⟨_, op_not rfl (hd 5 rfl), rfl⟩⟩
              | 7, _, _ => exact .inl ⟨rfl, op_mv rfl (hd 6 rfl)⟩
              | 8, _, _ => exact .inl ⟨⟨rfl, hd 7 rfl⟩, ⟨_, op_faR1 rfl (hs 4 rfl), rfl⟩⟩
              | 9, _, _ => exact .inl ⟨⟨rfl, hd 7 rfl⟩, ⟨_, op_faI0 rfl (hd 8 rfl), rfl⟩⟩
              | 10, _, _ => exact .inl ⟨⟨rfl, hd 7 rfl⟩, wp_b HNEG.out (op_ldb rfl rfl (hd 9 rfl) (((HE.out.to hb).get 0 rfl).a2.z HK2.out))⟩
              | 11, _, _ => exact .inl ⟨rfl, ⟨_, op_pickF rfl (hd 7 rfl) (hd 10 rfl), rfl⟩⟩
              | 12, _, _ => exact .inl ⟨rfl, op_mv rfl (hd 11 rfl)⟩
              | 13, _, _ => exact .inl ⟨⟨rfl, hd 12 rfl⟩, ⟨_, op_faR1 rfl (hs 4 rfl), rfl⟩⟩
              | 14, _, _ => exact .inl ⟨⟨rfl, hd 12 rfl⟩, ⟨_, op_faI1 rfl (hd 13 rfl), rfl⟩⟩
              | 15, _, _ => exact .inl ⟨⟨rfl, hd 12 rfl⟩, op_ldnw (off := 2) rfl rfl (hd 14 rfl) (((HE.out.to hb).get 0 rfl).a2.z HK2.out)⟩
              | 16, _, _ => exact .inl ⟨⟨rfl, hd 12 rfl⟩, op_lenw rfl rfl (hd 15 rfl)⟩
              | 17, _, _ => exact .inl ⟨⟨rfl, hd 12 rfl⟩, pure_b HZ.out (⟨_, op_eql0 rfl (hd 16 rfl), rfl⟩)⟩
              | 18, _, _ => exact .inl ⟨rfl, ⟨_, op_pickF rfl (hd 12 rfl) (hd 17 rfl), rfl⟩⟩
              | 19, _, _ => exact .inl ⟨rfl, op_mv rfl (hd 18 rfl)⟩
              | 20, _, _ => exact .inr ⟨⟨rfl, hd 19 rfl⟩, trivial⟩
              | 21, _, _ => exact .inr ⟨⟨rfl, hd 19 rfl⟩, trivial⟩
              | 22, _, _ => exact .inr ⟨⟨rfl, hd 19 rfl⟩, trivial⟩
              | 23, _, _ => exact .inr ⟨⟨rfl, hd 19 rfl⟩, trivial⟩
              | 24, _, _ => exact .inr ⟨⟨rfl, hd 19 rfl⟩, trivial⟩
              | 25, _, _ => exact .inr ⟨⟨rfl, hd 19 rfl⟩, trivial⟩
              | 26, _, _ => exact .inr ⟨⟨rfl, hd 19 rfl⟩, trivial⟩
              | 27, _, _ => exact .inr ⟨⟨rfl, hd 19 rfl⟩, trivial⟩
              | 28, _, _ => exact .inr ⟨⟨rfl, hd 19 rfl⟩, trivial⟩
              | 29, _, _ => exact .inr ⟨⟨rfl, hd 19 rfl⟩, trivial⟩
              | 30, _, _ => exact .inr ⟨⟨rfl, hd 19 rfl⟩, trivial⟩
              | 31, _, _ => exact .inr ⟨⟨rfl, hd 19 rfl⟩, trivial⟩
              | 32, _, _ => exact .inl ⟨rfl, ⟨_, op_pickT rfl (hd 19 rfl) rfl, rfl⟩⟩
              | i + 33, h, _ => omega
            · intro vs X1 hb hv hal hne
              replace HB := Hd.mk (bel_then HB.out hb)
              replace HE : Hd (Env X1 [⟨wr.heap.size, 58, [rC f.n, rC f.d]⟩]) := ⟨HE.out.to hb⟩
              have e43 : vs 43 = .bool true := hv 32 (by decide) rfl
              simp only [putAll, List.foldl_cons, List.foldl_nil, Act.put, List.setIfInBounds_toArray, List.set_cons_succ, List.set_cons_zero, List.drop_succ_cons, List.drop_zero, e43]
              generalize vs 11 = s11
              generalize vs 12 = s12
              generalize vs 13 = s13
              generalize vs 14 = s14
              generalize vs 15 = s15
              generalize vs 16 = s16
              generalize vs 17 = s17
              generalize vs 18 = s18
              generalize vs 19 = s19
              generalize vs 20 = s20
              generalize vs 21 = s21
              generalize vs 22 = s22
              generalize vs 23 = s23
              generalize vs 24 = s24
              generalize vs 25 = s25
              generalize vs 26 = s26
              generalize vs 27 = s27
              generalize vs 28 = s28
              generalize vs 29 = s29
              generalize vs 30 = s30
              generalize vs 31 = s31
              generalize vs 32 = s32
              generalize vs 33 = s33
              generalize vs 34 = s34
              generalize vs 35 = s35
              generalize vs 36 = s36
              generalize vs 37 = s37
              generalize vs 38 = s38
              generalize vs 39 = s39
              generalize vs 40 = s40
              generalize vs 41 = s41
              generalize vs 42 = s42
              clear hv hal hne hb
              go_wp2_with fail
              go_ret
              exact ⟨_, rfl, HB.out, by show Value.bool false = _; rw [HNO.out]⟩
          · have HZ := Hd.mk (decide_eq_false (show ¬ ((ln f.d.val.natAbs : Nat) : Int) = 0 from fun h => hz (Int.natAbs_eq_zero.1 (ln_eq_zero.1 (by omega)))))
            have hpos : 0 < f.d.val := by omega
            by_cases hg : Nat.gcd f.n.val.natAbs f.d.val.natAbs = 1
            · have HY := Hd.mk (rq_yes HR.out (show RQ.ok f = true by unfold RQ.ok; rw [HK1.out, HK2.out, decide_eq_true hpos, decide_eq_true hg]; rfl) HA.out)
              have HG : Hd ((!decide (cmpv (Nat.gcd f.n.val.natAbs f.d.val.natAbs) 1 = 0)) = false) := ⟨by rw [cmpv_one, decide_eq_true hg]; rfl⟩
              clear hneg hz hpos hg
              go_upto_region 4 with fail
              obtain ⟨W0, hW0⟩ : ∃ W : World, W = wr.alloc (.cells #[.bool b1, .slice A1 m1 c1, .bool b2, .slice A2 m2 c2] 58) := ⟨_, rfl⟩
              rw [← hW0]
              obtain ⟨he, hb⟩ := env_one (cp2 p1 p2) hW0
              have HE := Hd.mk he
              replace HB := Hd.mk (below_then HB.out HB.out.size hb)
              clear he hb hW0
              refine wp_region_vg 33 [11, 12, 13, 14, 15, 16, 17, 18, 19, 20, 21, 22, 23, 24, 25, 26, 27, 28, 29, 30, 31, 32, 33, 34, 35, 36, 37, 38, 39, 40, 41, 42, 43] [0, 2, 6, 7, 8, 9, 11, 12, 13, 14, 17, 18, 19, 20, 23, 24, 27, 31, 32] [] 70 [.bool false, .slice none 0 0] [isV (.pointer (some ⟨wr.heap.size, 0, none⟩)), isL [rC f.n], isV (.pointer (some ⟨wr.heap.size, 2, none⟩)), isL [rC f.d], isRaws [f.n, f.d], isV (.bool true), isV (.bool false), isV (.bool false), isV (.pointer (some ⟨wr.heap.size, 2, none⟩)), isV (.pointer (some ⟨wr.heap.size, 2, none⟩)), isV (.bool false), isV (.bool false), isV (.bool false), isV (.pointer (some ⟨wr.heap.size, 2, none⟩)), isV (.pointer (some ⟨wr.heap.size, 3, none⟩)), isN f.d.val.natAbs, isV (.int .i64 (((ln f.d.val.natAbs : Nat) : Int))), isV (.bool false), isV (.bool false), isV (.bool false), isV (.pointer (some ⟨wr.heap.size, 0, none⟩)), isL [rC f.n], isZ f.n.val, isN f.n.val.natAbs, isV (.pointer (some ⟨wr.heap.size, 2, none⟩)), isL [rC f.d], isZ f.d.val, isN f.d.val.natAbs, isN (Nat.gcd f.n.val.natAbs f.d.val.natAbs), isN 1, isV (.int .i64 (cmpv (Nat.gcd f.n.val.natAbs f.d.val.natAbs) 1)), isV (.bool false), isV (.bool false)] (by kernel_rfl) (by kernel_rfl) (by kernel_rfl) (by rfl) alloc_whole (fun d v c a w h => by cases d <;> exact h) ?_ ?_
              · intro i hi hA aa wx hb hs hd
                match i, hi, hA with
                | 0, _, _ => exact .inl ⟨rfl, ⟨_, op_faR0 rfl (hs 4 rfl), rfl⟩⟩
                | 1, _, _ => exact .inl ⟨rfl, op_ldI rfl rfl (hd 0 rfl) ((HE.out.to hb).get 0 rfl).a0⟩
                | 2, _, _ => exact .inl ⟨rfl, ⟨_, op_faR1 rfl (hs 4 rfl), rfl⟩⟩
                | 3, _, _ => exact .inl ⟨rfl, op_ldI rfl rfl (hd 2 rfl) ((HE.out.to hb).get 0 rfl).a2⟩
                | 4, _, _ => exact .inl ⟨rfl, op_bsI rfl rfl (hd 1 rfl) (hd 3 rfl)⟩
                | 5, _, _ => exact .inl ⟨rfl, wp_b HOK.out (op_call1 rfl rfl Try.call68 (valid_got [f.n, f.d] (Nat.le_refl 2) _ _ (hd 4 rfl)))⟩
                | 6, _, _ => exact .inl ⟨rfl, ⟨_, op_not rfl (hd 5 rfl), rfl⟩⟩
                | 7, _, _ => exact .inl ⟨rfl, op_mv rfl (hd 6 rfl)⟩
                | 8, _, _ => exact .inl ⟨⟨rfl, hd 7 rfl⟩, ⟨_, op_faR1 rfl (hs 4 rfl), rfl⟩⟩
                | 9, _, _ => exact .inl ⟨⟨rfl, hd 7 rfl⟩, ⟨_, op_faI0 rfl (hd 8 rfl), rfl⟩⟩
                | 10, _, _ => exact .inl ⟨⟨rfl, hd 7 rfl⟩, wp_b HNEG.out (op_ldb rfl rfl (hd 9 rfl) (((HE.out.to hb).get 0 rfl).a2.z HK2.out))⟩
                | 11, _, _ => exact .inl ⟨rfl, ⟨_, op_pickF rfl (hd 7 rfl) (hd 10 rfl), rfl⟩⟩
                | 12, _, _ => exact .inl ⟨rfl, op_mv rfl (hd 11 rfl)⟩
                | 13, _, _ => exact .inl ⟨⟨rfl, hd 12 rfl⟩, ⟨_, op_faR1 rfl (hs 4 rfl), rfl⟩⟩
                | 14, _, _ => exact .inl ⟨⟨rfl, hd 12 rfl⟩, ⟨_, op_faI1 rfl (hd 13 rfl), rfl⟩⟩
                | 15, _, _ => exact .inl ⟨⟨rfl, hd 12 rfl⟩, op_ldnw (off := 2) rfl rfl (hd 14 rfl) (((HE.out.to hb).get 0 rfl).a2.z HK2.out)⟩
                | 16, _, _ => exact .inl ⟨⟨rfl, hd 12 rfl⟩, op_lenw rfl rfl (hd 15 rfl)⟩
                | 17, _, _ => exact .inl ⟨⟨rfl, hd 12 rfl⟩, pure_b HZ.out (⟨_, op_eql0 rfl (hd 16 rfl), rfl⟩)⟩
                | 18, _, _ => exact .inl ⟨rfl, ⟨_, op_pickF rfl (hd 12 rfl) (hd 17 rfl), rfl⟩⟩
                | 19, _, _ => exact .inl ⟨rfl, op_mv rfl (hd 18 rfl)⟩
                | 20, _, _ => exact .inl ⟨⟨rfl, hd 19 rfl⟩, ⟨_, op_faR0 rfl (hs 4 rfl), rfl⟩⟩
                | 21, _, _ => exact .inl ⟨⟨rfl, hd 19 rfl⟩, op_ldI rfl rfl (hd 20 rfl) ((HE.out.to hb).get 0 rfl).a0⟩
                | 22, _, _ => exact .inl ⟨⟨rfl, hd 19 rfl⟩, op_call1 rfl rfl Try.call69 (of_rz f.n HK1.out _ _ (hd 21 rfl))⟩
                | 23, _, _ => exact .inl ⟨⟨rfl, hd 19 rfl⟩, op_magV rfl (hd 22 rfl)⟩
                | 24, _, _ => exact .inl ⟨⟨rfl, hd 19 rfl⟩, ⟨_, op_faR1 rfl (hs 4 rfl), rfl⟩⟩
                | 25, _, _ => exact .inl ⟨⟨rfl, hd 19 rfl⟩, op_ldI rfl rfl (hd 24 rfl) ((HE.out.to hb).get 0 rfl).a2⟩
                | 26, _, _ => exact .inl ⟨⟨rfl, hd 19 rfl⟩, op_call1 rfl rfl Try.call69 (of_rz f.d HK2.out _ _ (hd 25 rfl))⟩
                | 27, _, _ => exact .inl ⟨⟨rfl, hd 19 rfl⟩, op_magV rfl (hd 26 rfl)⟩
                | 28, _, _ => exact .inl ⟨⟨rfl, hd 19 rfl⟩, op_call2 rfl rfl Try.call91 (ngcd_got f.n.val.natAbs f.d.val.natAbs _ _ _ (hd 23 rfl) (hd 27 rfl) (by omega) (by omega))⟩
                | 29, _, _ => exact .inl ⟨⟨rfl, hd 19 rfl⟩, op_call1 rfl rfl Try.call78 (small1_got _)⟩
                | 30, _, _ => exact .inl ⟨⟨rfl, hd 19 rfl⟩, op_call2 rfl rfl Try.call115 (ncmp_got (Nat.gcd f.n.val.natAbs f.d.val.natAbs) 1 _ _ _ (hd 28 rfl) (hd 29 rfl))⟩
                | 31, _, _ => exact .inl ⟨⟨rfl, hd 19 rfl⟩, pure_b HG.out (⟨_, op_neq0 rfl (hd 30 rfl), rfl⟩)⟩
                | 32, _, _ => exact .inl ⟨rfl, ⟨_, op_pickF rfl (hd 19 rfl) (hd 31 rfl), rfl⟩⟩
                | i + 33, h, _ => omega
              · intro vs X1 hb hv hal hne
                replace HB := Hd.mk (bel_then HB.out hb)
                replace HE : Hd (Env X1 [⟨wr.heap.size, 58, [rC f.n, rC f.d]⟩]) := ⟨HE.out.to hb⟩
                have e43 : vs 43 = .bool false := hv 32 (by decide) rfl
                simp only [putAll, List.foldl_cons, List.foldl_nil, Act.put, List.setIfInBounds_toArray, List.set_cons_succ, List.set_cons_zero, List.drop_succ_cons, List.drop_zero, e43]
                generalize vs 11 = s11
                generalize vs 12 = s12
                generalize vs 13 = s13
                generalize vs 14 = s14
                generalize vs 15 = s15
                generalize vs 16 = s16
                generalize vs 17 = s17
                generalize vs 18 = s18
                generalize vs 19 = s19
                generalize vs 20 = s20
                generalize vs 21 = s21
                generalize vs 22 = s22
                generalize vs 23 = s23
                generalize vs 24 = s24
                generalize vs 25 = s25
                generalize vs 26 = s26
                generalize vs 27 = s27
                generalize vs 28 = s28
                generalize vs 29 = s29
                generalize vs 30 = s30
                generalize vs 31 = s31
                generalize vs 32 = s32
                generalize vs 33 = s33
                generalize vs 34 = s34
                generalize vs 35 = s35
                generalize vs 36 = s36
                generalize vs 37 = s37
                generalize vs 38 = s38
                generalize vs 39 = s39
                generalize vs 40 = s40
                generalize vs 41 = s41
                generalize vs 42 = s42
                clear hv hal hne hb
                go_wp2_with fail
                go_roundw
                case rel => exact ⟨k + 1, by omega, by go_num, HY.out, HB.out⟩
                case measure => simp [intOf]; omega
            · have HNO := Hd.mk (rq_no HR.out (show RQ.ok f = false by unfold RQ.ok; rw [decide_eq_false hg]; simp))
              have HG : Hd ((!decide (cmpv (Nat.gcd f.n.val.natAbs f.d.val.natAbs) 1 = 0)) = true) := ⟨by rw [cmpv_one, decide_eq_false hg]; rfl⟩
              clear hneg hz hpos hg
              go_upto_region 4 with fail
              obtain ⟨W0, hW0⟩ : ∃ W : World, W = wr.alloc (.cells #[.bool b1, .slice A1 m1 c1, .bool b2, .slice A2 m2 c2] 58) := ⟨_, rfl⟩
              rw [← hW0]
              obtain ⟨he, hb⟩ := env_one (cp2 p1 p2) hW0
              have HE := Hd.mk he
              replace HB := Hd.mk (below_then HB.out HB.out.size hb)
              clear he hb hW0
              refine wp_region_vg 33 [11, 12, 13, 14, 15, 16, 17, 18, 19, 20, 21, 22, 23, 24, 25, 26, 27, 28, 29, 30, 31, 32, 33, 34, 35, 36, 37, 38, 39, 40, 41, 42, 43] [0, 2, 6, 7, 8, 9, 11, 12, 13, 14, 17, 18, 19, 20, 23, 24, 27, 31, 32] [] 70 [.bool false, .slice none 0 0] [isV (.pointer (some ⟨wr.heap.size, 0, none⟩)), isL [rC f.n], isV (.pointer (some ⟨wr.heap.size, 2, none⟩)), isL [rC f.d], isRaws [f.n, f.d], isV (.bool true), isV (.bool false), isV (.bool false), isV (.pointer (some ⟨wr.heap.size, 2, none⟩)), isV (.pointer (some ⟨wr.heap.size, 2, none⟩)), isV (.bool false), isV (.bool false), isV (.bool false), isV (.pointer (some ⟨wr.heap.size, 2, none⟩)), isV (.pointer (some ⟨wr.heap.size, 3, none⟩)), isN f.d.val.natAbs, isV (.int .i64 (((ln f.d.val.natAbs : Nat) : Int))), isV (.bool false), isV (.bool false), isV (.bool false), isV (.pointer (some ⟨wr.heap.size, 0, none⟩)), isL [rC f.n], isZ f.n.val, isN f.n.val.natAbs, isV (.pointer (some ⟨wr.heap.size, 2, none⟩)), isL [rC f.d], isZ f.d.val, isN f.d.val.natAbs, isN (Nat.gcd f.n.val.natAbs f.d.val.natAbs), isN 1, isV (.int .i64 (cmpv (Nat.gcd f.n.val.natAbs f.d.val.natAbs) 1)), isV (.bool true), isV (.bool true)] (by kernel_rfl) (by kernel_rfl) (by kernel_rfl) (by rfl) alloc_whole (fun d v c a w h => by cases d <;> exact h) ?_ ?_
              · intro i hi hA aa wx hb hs hd
                match i, hi, hA with
                | 0, _, _ => exact .inl ⟨rfl, ⟨_, op_faR0 rfl (hs 4 rfl), rfl⟩⟩
                | 1, _, _ => exact .inl ⟨rfl, op_ldI rfl rfl (hd 0 rfl) ((HE.out.to hb).get 0 rfl).a0⟩
                | 2, _, _ => exact .inl ⟨rfl, ⟨_, op_faR1 rfl (hs 4 rfl), rfl⟩⟩
                | 3, _, _ => exact .inl ⟨rfl, op_ldI rfl rfl (hd 2 rfl) ((HE.out.to hb).get 0 rfl).a2⟩
                | 4, _, _ => exact .inl ⟨rfl, op_bsI rfl rfl (hd 1 rfl) (hd 3 rfl)⟩
                | 5, _, _ => exact .inl ⟨rfl, wp_b HOK.out (op_call1 rfl rfl Try.call68 (valid_got [f.n, f.d] (Nat.le_refl 2) _ _ (hd 4 rfl)))⟩
                | 6, _, _ => exact .inl ⟨rfl, ⟨_, op_not rfl (hd 5 rfl), rfl⟩⟩
                | 7, _, _ => exact .inl ⟨rfl, op_mv rfl (hd 6 rfl)⟩
                | 8, _, _ => exact .inl ⟨⟨rfl, hd 7 rfl⟩, ⟨_, op_faR1 rfl (hs 4 rfl), rfl⟩⟩
                | 9, _, _ => exact .inl ⟨⟨rfl, hd 7 rfl⟩, ⟨_, op_faI0 rfl (hd 8 rfl), rfl⟩⟩
                | 10, _, _ => exact .inl ⟨⟨rfl, hd 7 rfl⟩, wp_b HNEG.out (op_ldb rfl rfl (hd 9 rfl) (((HE.out.to hb).get 0 rfl).a2.z HK2.out))⟩
                | 11, _, _ => exact .inl ⟨rfl, ⟨_, op_pickF rfl (hd 7 rfl) (hd 10 rfl), rfl⟩⟩
                | 12, _, _ => exact .inl ⟨rfl, op_mv rfl (hd 11 rfl)⟩
                | 13, _, _ => exact .inl ⟨⟨rfl, hd 12 rfl⟩, ⟨_, op_faR1 rfl (hs 4 rfl), rfl⟩⟩
                | 14, _, _ => exact .inl ⟨⟨rfl, hd 12 rfl⟩, ⟨_, op_faI1 rfl (hd 13 rfl), rfl⟩⟩
                | 15, _, _ => exact .inl ⟨⟨rfl, hd 12 rfl⟩, op_ldnw (off := 2) rfl rfl (hd 14 rfl) (((HE.out.to hb).get 0 rfl).a2.z HK2.out)⟩
                | 16, _, _ => exact .inl ⟨⟨rfl, hd 12 rfl⟩, op_lenw rfl rfl (hd 15 rfl)⟩
                | 17, _, _ => exact .inl ⟨⟨rfl, hd 12 rfl⟩, pure_b HZ.out (⟨_, op_eql0 rfl (hd 16 rfl), rfl⟩)⟩
                | 18, _, _ => exact .inl ⟨rfl, ⟨_, op_pickF rfl (hd 12 rfl) (hd 17 rfl), rfl⟩⟩
                | 19, _, _ => exact .inl ⟨rfl, op_mv rfl (hd 18 rfl)⟩
                | 20, _, _ => exact .inl ⟨⟨rfl, hd 19 rfl⟩, ⟨_, op_faR0 rfl (hs 4 rfl), rfl⟩⟩
                | 21, _, _ => exact .inl ⟨⟨rfl, hd 19 rfl⟩, op_ldI rfl rfl (hd 20 rfl) ((HE.out.to hb).get 0 rfl).a0⟩
                | 22, _, _ => exact .inl ⟨⟨rfl, hd 19 rfl⟩, op_call1 rfl rfl Try.call69 (of_rz f.n HK1.out _ _ (hd 21 rfl))⟩
                | 23, _, _ => exact .inl ⟨⟨rfl, hd 19 rfl⟩, op_magV rfl (hd 22 rfl)⟩
                | 24, _, _ => exact .inl ⟨⟨rfl, hd 19 rfl⟩, ⟨_, op_faR1 rfl (hs 4 rfl), rfl⟩⟩
                | 25, _, _ => exact .inl ⟨⟨rfl, hd 19 rfl⟩, op_ldI rfl rfl (hd 24 rfl) ((HE.out.to hb).get 0 rfl).a2⟩
                | 26, _, _ => exact .inl ⟨⟨rfl, hd 19 rfl⟩, op_call1 rfl rfl Try.call69 (of_rz f.d HK2.out _ _ (hd 25 rfl))⟩
                | 27, _, _ => exact .inl ⟨⟨rfl, hd 19 rfl⟩, op_magV rfl (hd 26 rfl)⟩
                | 28, _, _ => exact .inl ⟨⟨rfl, hd 19 rfl⟩, op_call2 rfl rfl Try.call91 (ngcd_got f.n.val.natAbs f.d.val.natAbs _ _ _ (hd 23 rfl) (hd 27 rfl) (by omega) (by omega))⟩
                | 29, _, _ => exact .inl ⟨⟨rfl, hd 19 rfl⟩, op_call1 rfl rfl Try.call78 (small1_got _)⟩
                | 30, _, _ => exact .inl ⟨⟨rfl, hd 19 rfl⟩, op_call2 rfl rfl Try.call115 (ncmp_got (Nat.gcd f.n.val.natAbs f.d.val.natAbs) 1 _ _ _ (hd 28 rfl) (hd 29 rfl))⟩
                | 31, _, _ => exact .inl ⟨⟨rfl, hd 19 rfl⟩, pure_b HG.out (⟨_, op_neq0 rfl (hd 30 rfl), rfl⟩)⟩
                | 32, _, _ => exact .inl ⟨rfl, ⟨_, op_pickF rfl (hd 19 rfl) (hd 31 rfl), rfl⟩⟩
                | i + 33, h, _ => omega
              · intro vs X1 hb hv hal hne
                replace HB := Hd.mk (bel_then HB.out hb)
                replace HE : Hd (Env X1 [⟨wr.heap.size, 58, [rC f.n, rC f.d]⟩]) := ⟨HE.out.to hb⟩
                have e43 : vs 43 = .bool true := hv 32 (by decide) rfl
                simp only [putAll, List.foldl_cons, List.foldl_nil, Act.put, List.setIfInBounds_toArray, List.set_cons_succ, List.set_cons_zero, List.drop_succ_cons, List.drop_zero, e43]
                generalize vs 11 = s11
                generalize vs 12 = s12
                generalize vs 13 = s13
                generalize vs 14 = s14
                generalize vs 15 = s15
                generalize vs 16 = s16
                generalize vs 17 = s17
                generalize vs 18 = s18
                generalize vs 19 = s19
                generalize vs 20 = s20
                generalize vs 21 = s21
                generalize vs 22 = s22
                generalize vs 23 = s23
                generalize vs 24 = s24
                generalize vs 25 = s25
                generalize vs 26 = s26
                generalize vs 27 = s27
                generalize vs 28 = s28
                generalize vs 29 = s29
                generalize vs 30 = s30
                generalize vs 31 = s31
                generalize vs 32 = s32
                generalize vs 33 = s33
                generalize vs 34 = s34
                generalize vs 35 = s35
                generalize vs 36 = s36
                generalize vs 37 = s37
                generalize vs 38 = s38
                generalize vs 39 = s39
                generalize vs 40 = s40
                generalize vs 41 = s41
                generalize vs 42 = s42
                clear hv hal hne hb
                go_wp2_with fail
                go_ret
                exact ⟨_, rfl, HB.out, by show Value.bool false = _; rw [HNO.out]⟩
      · have hno : ([f.n, f.d].all Raw.ok) = false := by simpa using hok
        have HOK := Hd.mk hno
        have HNO := Hd.mk (rq_no HR.out (show RQ.ok f = false by
          have h2 : (f.n.ok && f.d.ok) = false := by simpa using hno
          unfold RQ.ok
          rw [h2]
          rfl))
        clear hok hno
        go_upto_region 4 with fail
        obtain ⟨W0, hW0⟩ : ∃ W : World, W = wr.alloc (.cells #[.bool b1, .slice A1 m1 c1, .bool b2, .slice A2 m2 c2] 58) := ⟨_, rfl⟩
        rw [← hW0]
        obtain ⟨he, hb⟩ := env_one (cp2 p1 p2) hW0
        have HE := Hd.mk he
        replace HB := Hd.mk (below_then HB.out HB.out.size hb)
        clear he hb hW0
        refine wp_region_vg 33 [11, 12, 13, 14, 15, 16, 17, 18, 19, 20, 21, 22, 23, 24, 25, 26, 27, 28, 29, 30, 31, 32, 33, 34, 35, 36, 37, 38, 39, 40, 41, 42, 43] [0, 2, 6, 7, 11, 12, 18, 19, 32] [] 70 [.bool false, .slice none 0 0] [isV (.pointer (some ⟨wr.heap.size, 0, none⟩)), isL [rC f.n], isV (.pointer (some ⟨wr.heap.size, 2, none⟩)), isL [rC f.d], isRaws [f.n, f.d], isV (.bool false), isV (.bool true), isV (.bool true), SP.any, SP.any, SP.any, isV (.bool true), isV (.bool true), SP.any, SP.any, SP.any, SP.any, SP.any, isV (.bool true), isV (.bool true), SP.any, SP.any, SP.any, SP.any, SP.any, SP.any, SP.any, SP.any, SP.any, SP.any, SP.any, SP.any, isV (.bool true)] (by kernel_rfl) (by kernel_rfl) (by kernel_rfl) (by rfl) alloc_whole (fun d v c a w h => by cases d <;> exact h) ?_ ?_
        · intro i hi hA aa wx hb hs hd
          match i, hi, hA with
          | 0, _, _ => exact .inl ⟨rfl, ⟨_, op_faR0 rfl (hs 4 rfl), rfl⟩⟩
          | 1, _, _ => exact .inl ⟨rfl, op_ldI rfl rfl (hd 0 rfl) ((HE.out.to hb).get 0 rfl).a0⟩
          | 2, _, _ => exact .inl ⟨rfl, ⟨_, op_faR1 rfl (hs 4 rfl), rfl⟩⟩
          | 3, _, _ => exact .inl ⟨rfl, op_ldI rfl rfl (hd 2 rfl) ((HE.out.to hb).get 0 rfl).a2⟩
          | 4, _, _ => exact .inl ⟨rfl, op_bsI rfl rfl (hd 1 rfl) (hd 3 rfl)⟩
          | 5, _, _ => exact .inl ⟨rfl, wp_b HOK.out (op_call1 rfl rfl Try.call68 (valid_got [f.n, f.d] (Nat.le_refl 2) _ _ (hd 4 rfl)))⟩
          | 6, _, _ => exact .inl ⟨rfl, ⟨_, op_not rfl (hd 5 rfl), rfl⟩⟩
          | 7, _, _ => exact .inl ⟨rfl, op_mv rfl (hd 6 rfl)⟩
          | 8, _, _ => exact .inr ⟨⟨rfl, hd 7 rfl⟩, trivial⟩
          | 9, _, _ => exact .inr ⟨⟨rfl, hd 7 rfl⟩, trivial⟩
          | 10, _, _ => exact .inr ⟨⟨rfl, hd 7 rfl⟩, trivial⟩
          | 11, _, _ => exact .inl ⟨rfl, ⟨_, op_pickT rfl (hd 7 rfl) rfl, rfl⟩⟩
          | 12, _, _ => exact .inl ⟨rfl, op_mv rfl (hd 11 rfl)⟩
          | 13, _, _ => exact .inr ⟨⟨rfl, hd 12 rfl⟩, trivial⟩
          | 14, _, _ => exact .inr ⟨⟨rfl, hd 12 rfl⟩, trivial⟩
          | 15, _, _ => exact .inr ⟨⟨rfl, hd 12 rfl⟩, trivial⟩
          | 16, _, _ => exact .inr ⟨⟨rfl, hd 12 rfl⟩, trivial⟩
          | 17, _, _ => exact .inr ⟨⟨rfl, hd 12 rfl⟩, trivial⟩
          | 18, _, _ => exact .inl ⟨rfl, ⟨_, op_pickT rfl (hd 12 rfl) rfl, rfl⟩⟩
          | 19, _, _ => exact .inl ⟨rfl, op_mv rfl (hd 18 rfl)⟩
          | 20, _, _ => exact .inr ⟨⟨rfl, hd 19 rfl⟩, trivial⟩
          | 21, _, _ => exact .inr ⟨⟨rfl, hd 19 rfl⟩, trivial⟩
          | 22, _, _ => exact .inr ⟨⟨rfl, hd 19 rfl⟩, trivial⟩
          | 23, _, _ => exact .inr ⟨⟨rfl, hd 19 rfl⟩, trivial⟩
          | 24, _, _ => exact .inr ⟨⟨rfl, hd 19 rfl⟩, trivial⟩
          | 25, _, _ => exact .inr ⟨⟨rfl, hd 19 rfl⟩, trivial⟩
          | 26, _, _ => exact .inr ⟨⟨rfl, hd 19 rfl⟩, trivial⟩
          | 27, _, _ => exact .inr ⟨⟨rfl, hd 19 rfl⟩, trivial⟩
          | 28, _, _ => exact .inr ⟨⟨rfl, hd 19 rfl⟩, trivial⟩
          | 29, _, _ => exact .inr ⟨⟨rfl, hd 19 rfl⟩, trivial⟩
          | 30, _, _ => exact .inr ⟨⟨rfl, hd 19 rfl⟩, trivial⟩
          | 31, _, _ => exact .inr ⟨⟨rfl, hd 19 rfl⟩, trivial⟩
          | 32, _, _ => exact .inl ⟨rfl, ⟨_, op_pickT rfl (hd 19 rfl) rfl, rfl⟩⟩
          | i + 33, h, _ => omega
        · intro vs X1 hb hv hal hne
          replace HB := Hd.mk (bel_then HB.out hb)
          replace HE : Hd (Env X1 [⟨wr.heap.size, 58, [rC f.n, rC f.d]⟩]) := ⟨HE.out.to hb⟩
          have e43 : vs 43 = .bool true := hv 32 (by decide) rfl
          simp only [putAll, List.foldl_cons, List.foldl_nil, Act.put, List.setIfInBounds_toArray, List.set_cons_succ, List.set_cons_zero, List.drop_succ_cons, List.drop_zero, e43]
          generalize vs 11 = s11
          generalize vs 12 = s12
          generalize vs 13 = s13
          generalize vs 14 = s14
          generalize vs 15 = s15
          generalize vs 16 = s16
          generalize vs 17 = s17
          generalize vs 18 = s18
          generalize vs 19 = s19
          generalize vs 20 = s20
          generalize vs 21 = s21
          generalize vs 22 = s22
          generalize vs 23 = s23
          generalize vs 24 = s24
          generalize vs 25 = s25
          generalize vs 26 = s26
          generalize vs 27 = s27
          generalize vs 28 = s28
          generalize vs 29 = s29
          generalize vs 30 = s30
          generalize vs 31 = s31
          generalize vs 32 = s32
          generalize vs 33 = s33
          generalize vs 34 = s34
          generalize vs 35 = s35
          generalize vs 36 = s36
          generalize vs 37 = s37
          generalize vs 38 = s38
          generalize vs 39 = s39
          generalize vs 40 = s40
          generalize vs 41 = s41
          generalize vs 42 = s42
          clear hv hal hne hb
          go_wp2_with fail
          go_ret
          exact ⟨_, rfl, HB.out, by show Value.bool false = _; rw [HNO.out]⟩
    · have hke : k = n := by omega
      subst hke
      go_wp2
      go_ret
      refine ⟨_, rfl, HB.out, ?_⟩
      show Value.bool true = _
      rw [← HA.out, List.take_of_length_le (by have := HN.out; omega)]
end Go.Proofs.Ytcjcpfafalkceaa
