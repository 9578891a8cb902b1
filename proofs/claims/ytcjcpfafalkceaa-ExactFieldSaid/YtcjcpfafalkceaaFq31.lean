/- Part 31 of the texts behind this claim. -/
import Derived.Test.YtcjcpfafalkceaaFq30
set_option linter.unusedVariables false
set_option linter.unusedSimpArgs false
namespace Go.Proofs.Ytcjcpfafalkceaa
open Go.RowKit
theorem sgnv_pos (z : Int) : decide (0 < sgnv z) = decide (0 < z) := by
  apply decide_eq_decide.2
  unfold sgnv
  split
  · constructor <;> intro h <;> omega
  · split <;> (constructor <;> intro h <;> omega)
theorem sgnv_zero (z : Int) : decide (sgnv z = 0) = decide (z = 0) := by
  apply decide_eq_decide.2
  unfold sgnv
  split
  · constructor <;> intro h <;> omega
  · split <;> (constructor <;> intro h <;> omega)
theorem all_rq2 (f g : RQ) : [f, g].all RQ.ok = (f.ok && g.ok) := by simp
theorem all_rq1 (f : RQ) : [f].all RQ.ok = f.ok := by simp
theorem ok_lens {f : RQ} {u v x y : Value} {w : World} (h : f.ok = true) (h1 : (rC f.n).p u v w) (h2 : (rC f.d).p x y w) : ln f.n.val.natAbs ≤ 256 ∧ ln f.d.val.natAbs ≤ 256 := ⟨rC_len (RQ.ok_n h) h1, rC_len (RQ.ok_d h) h2⟩
set_option maxRecDepth 100000 in
set_option maxHeartbeats 1000000 in
theorem ValidRat_got (f : RQ) (v0 : Value) (w : World) (h0 : (isL [rC f.n, rC f.d]).p v0 w) :
    Calls Try.prog 50 #[v0] w (Got w (isV (.bool f.ok)).p) := by
  obtain ⟨u0, x0, y0, z0, rfl, p0, q0⟩ := isL_two.1 h0
  clear h0
  by_cases k1 : f.n.ok = true
  · by_cases k2 : f.d.ok = true
    · by_cases k3 : 0 < f.d.val
      · by_cases k4 : Nat.gcd f.n.val.natAbs f.d.val.natAbs = 1
        · have k3' : decide (0 < sgnv f.d.val) = true := by rw [sgnv_pos]; exact decide_eq_true k3
          have k4' : decide (sgnv (zgcd f.n.val f.d.val - 1) = 0) = true := by rw [sgnv_zero]; apply decide_eq_true; unfold zgcd; omega
          rw [show f.ok = true by unfold RQ.ok; rw [k1, k2, decide_eq_true k3, decide_eq_true k4]; rfl]
          have l1 := rC_len k1 p0
          have l2 := rC_len k2 q0
          have l3 : ln (zgcd f.n.val f.d.val).natAbs ≤ 256 := Nat.le_trans (zgcd_ln _ _) (by omega)
          have l4 : ln (Int.natAbs 1) ≤ 256 := by rw [show Int.natAbs 1 = 1 from rfl, ln_one_]; omega
          have HK1 := Hd.mk k1
          have HK2 := Hd.mk k2
          have HK3 := Hd.mk k3'
          have HK4 := Hd.mk k4'
          clear k1 k2 k3 k3' k4 k4'
          go_enter Try.func50, Try.ntmps50
          go_upto_region 1 with fail
          obtain ⟨W0, hW0⟩ : ∃ W : World, W = w.alloc (.cells #[u0, x0, y0, z0] 58) := ⟨_, rfl⟩
          rw [← hW0]
          obtain ⟨he, hb⟩ := env_one (cp2 p0 q0) hW0
          have HE := Hd.mk he
          have HB := Hd.mk hb
          clear he hb hW0
          refine wp_region_vg 27 [3, 4, 5, 6, 7, 8, 9, 10, 11, 12, 13, 14, 15, 16, 17, 18, 19, 20, 21, 22, 23, 24, 25, 26, 27, 28, 29] [0, 3, 4, 7, 8, 9, 13, 14, 15, 16, 19, 25, 26] [] 70 [.bool false, .slice none 0 0] [isV (.pointer (some ⟨w.heap.size, 0, none⟩)), isL [rC f.n], isV (.bool true), isV (.bool true), isV (.pointer (some ⟨w.heap.size, 2, none⟩)), isL [rC f.d], isV (.bool true), isV (.bool true), isV (.bool true), isV (.pointer (some ⟨w.heap.size, 2, none⟩)), isL [rC f.d], isZ f.d.val, isV (.int .i64 (sgnv f.d.val)), isV (.bool true), isV (.bool true), isV (.bool true), isV (.pointer (some ⟨w.heap.size, 0, none⟩)), isL [rC f.n], isZ f.n.val, isV (.pointer (some ⟨w.heap.size, 2, none⟩)), isL [rC f.d], isZ f.d.val, isZ (zgcd f.n.val f.d.val), isZ 1, isV (.int .i64 (sgnv ((zgcd f.n.val f.d.val) - 1))), isV (.bool true), isV (.bool true)] (by kernel_rfl) (by kernel_rfl) (by kernel_rfl) (by rfl) alloc_whole (fun d v c a w h => by cases d <;> exact h) ?_ ?_
          · intro i hi hA aa wx hb hs hd
            match i, hi, hA with
            | 0, _, _ => exact .inl ⟨rfl, ⟨_, op_faR0 rfl (hs 1 rfl), rfl⟩⟩
            | 1, _, _ => exact .inl ⟨rfl, op_ldI rfl rfl (hd 0 rfl) ((HE.out.to hb).get 0 rfl).a0⟩
            | 2, _, _ => exact .inl ⟨rfl, wp_b HK1.out (op_call1 rfl rfl Try.call22 (rValid_rz f.n _ _ (hd 1 rfl)))⟩
            | 3, _, _ => exact .inl ⟨rfl, op_mv rfl (hd 2 rfl)⟩
            | 4, _, _ => exact .inl ⟨⟨rfl, hd 3 rfl⟩, ⟨_, op_faR1 rfl (hs 1 rfl), rfl⟩⟩
            | 5, _, _ => exact .inl ⟨⟨rfl, hd 3 rfl⟩, op_ldI rfl rfl (hd 4 rfl) ((HE.out.to hb).get 0 rfl).a2⟩
            | 6, _, _ => exact .inl ⟨⟨rfl, hd 3 rfl⟩, wp_b HK2.out (op_call1 rfl rfl Try.call22 (rValid_rz f.d _ _ (hd 5 rfl)))⟩
            | 7, _, _ => exact .inl ⟨rfl, ⟨_, op_pickT rfl (hd 3 rfl) (hd 6 rfl), rfl⟩⟩
            | 8, _, _ => exact .inl ⟨rfl, op_mv rfl (hd 7 rfl)⟩
            | 9, _, _ => exact .inl ⟨⟨rfl, hd 8 rfl⟩, ⟨_, op_faR1 rfl (hs 1 rfl), rfl⟩⟩
            | 10, _, _ => exact .inl ⟨⟨rfl, hd 8 rfl⟩, op_ldI rfl rfl (hd 9 rfl) ((HE.out.to hb).get 0 rfl).a2⟩
            | 11, _, _ => exact .inl ⟨⟨rfl, hd 8 rfl⟩, op_call1 rfl rfl Try.call32 (rOf_rz f.d HK2.out _ _ (hd 10 rfl))⟩
            | 12, _, _ => exact .inl ⟨⟨rfl, hd 8 rfl⟩, op_call1 rfl rfl Try.call43 (rSign_got f.d.val _ _ (hd 11 rfl) (by omega))⟩
            | 13, _, _ => exact .inl ⟨⟨rfl, hd 8 rfl⟩, pure_b HK3.out (⟨_, op_gtr0 rfl (hd 12 rfl), rfl⟩)⟩
            | 14, _, _ => exact .inl ⟨rfl, ⟨_, op_pickT rfl (hd 8 rfl) (hd 13 rfl), rfl⟩⟩
            | 15, _, _ => exact .inl ⟨rfl, op_mv rfl (hd 14 rfl)⟩
            | 16, _, _ => exact .inl ⟨⟨rfl, hd 15 rfl⟩, ⟨_, op_faR0 rfl (hs 1 rfl), rfl⟩⟩
            | 17, _, _ => exact .inl ⟨⟨rfl, hd 15 rfl⟩, op_ldI rfl rfl (hd 16 rfl) ((HE.out.to hb).get 0 rfl).a0⟩
            | 18, _, _ => exact .inl ⟨⟨rfl, hd 15 rfl⟩, op_call1 rfl rfl Try.call32 (rOf_rz f.n HK1.out _ _ (hd 17 rfl))⟩
            | 19, _, _ => exact .inl ⟨⟨rfl, hd 15 rfl⟩, ⟨_, op_faR1 rfl (hs 1 rfl), rfl⟩⟩
            | 20, _, _ => exact .inl ⟨⟨rfl, hd 15 rfl⟩, op_ldI rfl rfl (hd 19 rfl) ((HE.out.to hb).get 0 rfl).a2⟩
            | 21, _, _ => exact .inl ⟨⟨rfl, hd 15 rfl⟩, op_call1 rfl rfl Try.call32 (rOf_rz f.d HK2.out _ _ (hd 20 rfl))⟩
            | 22, _, _ => exact .inl ⟨⟨rfl, hd 15 rfl⟩, op_call2 rfl rfl Try.call96 (rCommon_got f.n.val f.d.val _ _ _ (hd 18 rfl) (hd 21 rfl) (by omega) (by omega))⟩
            | 23, _, _ => exact .inl ⟨⟨rfl, hd 15 rfl⟩, op_call1 rfl rfl Try.call24 (whole_one _)⟩
            | 24, _, _ => exact .inl ⟨⟨rfl, hd 15 rfl⟩, op_call2 rfl rfl Try.call34 (rOrd_got (zgcd f.n.val f.d.val) 1 _ _ _ (hd 22 rfl) (hd 23 rfl) (by omega) (by omega))⟩
            | 25, _, _ => exact .inl ⟨⟨rfl, hd 15 rfl⟩, pure_b HK4.out (⟨_, op_eql0 rfl (hd 24 rfl), rfl⟩)⟩
            | 26, _, _ => exact .inl ⟨rfl, ⟨_, op_pickT rfl (hd 15 rfl) (hd 25 rfl), rfl⟩⟩
            | i + 27, h, _ => omega
          · intro vs X1 hb hv hal hne
            replace HB := Hd.mk (bel_then HB.out hb)
            replace HE : Hd (Env X1 [⟨w.heap.size, 58, [rC f.n, rC f.d]⟩]) := ⟨HE.out.to hb⟩
            have e29 : vs 29 = .bool true := hv 26 (by decide) rfl
            simp only [putAll, List.foldl_cons, List.foldl_nil, Act.put, List.setIfInBounds_toArray, List.set_cons_succ, List.set_cons_zero, List.drop_succ_cons, List.drop_zero, e29]
            generalize vs 3 = s3
            generalize vs 4 = s4
            generalize vs 5 = s5
            generalize vs 6 = s6
            generalize vs 7 = s7
            generalize vs 8 = s8
            generalize vs 9 = s9
            generalize vs 10 = s10
            generalize vs 11 = s11
            generalize vs 12 = s12
            generalize vs 13 = s13
            generalize vs 14 = s14
            generalize vs 15 = s15
            generalize vs 16 = s16
            generalize vs 17 = s17
            generalize vs 18 = s18
            generalize vs 19 = s19
            generalize vs 20 = s20
            generalize vs 21 = s21
            generalize vs 22 = s22
            generalize vs 23 = s23
            generalize vs 24 = s24
            generalize vs 25 = s25
            generalize vs 26 = s26
            generalize vs 27 = s27
            generalize vs 28 = s28
            clear hv hal hne hb
            go_wp2_with fail
            go_ret
            exact ⟨_, rfl, HB.out, rfl⟩
        · have k3' : decide (0 < sgnv f.d.val) = true := by rw [sgnv_pos]; exact decide_eq_true k3
          have k4' : decide (sgnv (zgcd f.n.val f.d.val - 1) = 0) = false := by rw [sgnv_zero]; apply decide_eq_false; unfold zgcd; omega
          rw [show f.ok = false by unfold RQ.ok; rw [decide_eq_false k4]; simp]
          have l1 := rC_len k1 p0
          have l2 := rC_len k2 q0
          have l3 : ln (zgcd f.n.val f.d.val).natAbs ≤ 256 := Nat.le_trans (zgcd_ln _ _) (by omega)
          have l4 : ln (Int.natAbs 1) ≤ 256 := by rw [show Int.natAbs 1 = 1 from rfl, ln_one_]; omega
          have HK1 := Hd.mk k1
          have HK2 := Hd.mk k2
          have HK3 := Hd.mk k3'
          have HK4 := Hd.mk k4'
          clear k1 k2 k3 k3' k4 k4'
          go_enter Try.func50, Try.ntmps50
          go_upto_region 1 with fail
          obtain ⟨W0, hW0⟩ : ∃ W : World, W = w.alloc (.cells #[u0, x0, y0, z0] 58) := ⟨_, rfl⟩
          rw [← hW0]
          obtain ⟨he, hb⟩ := env_one (cp2 p0 q0) hW0
          have HE := Hd.mk he
          have HB := Hd.mk hb
          clear he hb hW0
          refine wp_region_vg 27 [3, 4, 5, 6, 7, 8, 9, 10, 11, 12, 13, 14, 15, 16, 17, 18, 19, 20, 21, 22, 23, 24, 25, 26, 27, 28, 29] [0, 3, 4, 7, 8, 9, 13, 14, 15, 16, 19, 25, 26] [] 70 [.bool false, .slice none 0 0] [isV (.pointer (some ⟨w.heap.size, 0, none⟩)), isL [rC f.n], isV (.bool true), isV (.bool true), isV (.pointer (some ⟨w.heap.size, 2, none⟩)), isL [rC f.d], isV (.bool true), isV (.bool true), isV (.bool true), isV (.pointer (some ⟨w.heap.size, 2, none⟩)), isL [rC f.d], isZ f.d.val, isV (.int .i64 (sgnv f.d.val)), isV (.bool true), isV (.bool true), isV (.bool true), isV (.pointer (some ⟨w.heap.size, 0, none⟩)), isL [rC f.n], isZ f.n.val, isV (.pointer (some ⟨w.heap.size, 2, none⟩)), isL [rC f.d], isZ f.d.val, isZ (zgcd f.n.val f.d.val), isZ 1, isV (.int .i64 (sgnv ((zgcd f.n.val f.d.val) - 1))), isV (.bool false), isV (.bool false)] (by kernel_rfl) (by kernel_rfl) (by kernel_rfl) (by rfl) alloc_whole (fun d v c a w h => by cases d <;> exact h) ?_ ?_
          · intro i hi hA aa wx hb hs hd
            match i, hi, hA with
            | 0, _, _ => exact .inl ⟨rfl, ⟨_, op_faR0 rfl (hs 1 rfl), rfl⟩⟩
            | 1, _, _ => exact .inl ⟨rfl, op_ldI rfl rfl (hd 0 rfl) ((HE.out.to hb).get 0 rfl).a0⟩
            | 2, _, _ => exact .inl ⟨rfl, wp_b HK1.out (op_call1 rfl rfl Try.call22 (rValid_rz f.n _ _ (hd 1 rfl)))⟩
            | 3, _, _ => exact .inl ⟨rfl, op_mv rfl (hd 2 rfl)⟩
            | 4, _, _ => exact .inl ⟨⟨rfl, hd 3 rfl⟩, ⟨_, op_faR1 rfl (hs 1 rfl), rfl⟩⟩
            | 5, _, _ => exact .inl ⟨⟨rfl, hd 3 rfl⟩, op_ldI rfl rfl (hd 4 rfl) ((HE.out.to hb).get 0 rfl).a2⟩
            | 6, _, _ => exact .inl ⟨⟨rfl, hd 3 rfl⟩, wp_b HK2.out (op_call1 rfl rfl Try.call22 (rValid_rz f.d _ _ (hd 5 rfl)))⟩
            | 7, _, _ => exact .inl ⟨rfl, ⟨_, op_pickT rfl (hd 3 rfl) (hd 6 rfl), rfl⟩⟩
            | 8, _, _ => exact .inl ⟨rfl, op_mv rfl (hd 7 rfl)⟩
            | 9, _, _ => exact .inl ⟨⟨rfl, hd 8 rfl⟩, ⟨_, op_faR1 rfl (hs 1 rfl), rfl⟩⟩
            | 10, _, _ => exact .inl ⟨⟨rfl, hd 8 rfl⟩, op_ldI rfl rfl (hd 9 rfl) ((HE.out.to hb).get 0 rfl).a2⟩
            | 11, _, _ => exact .inl ⟨⟨rfl, hd 8 rfl⟩, op_call1 rfl rfl Try.call32 (rOf_rz f.d HK2.out _ _ (hd 10 rfl))⟩
            | 12, _, _ => exact .inl ⟨⟨rfl, hd 8 rfl⟩, op_call1 rfl rfl Try.call43 (rSign_got f.d.val _ _ (hd 11 rfl) (by omega))⟩
            | 13, _, _ => exact .inl ⟨⟨rfl, hd 8 rfl⟩, pure_b HK3.out (⟨_, op_gtr0 rfl (hd 12 rfl), rfl⟩)⟩
            | 14, _, _ => exact .inl ⟨rfl, ⟨_, op_pickT rfl (hd 8 rfl) (hd 13 rfl), rfl⟩⟩
            | 15, _, _ => exact .inl ⟨rfl, op_mv rfl (hd 14 rfl)⟩
            | 16, _, _ => exact .inl ⟨⟨rfl, hd 15 rfl⟩, ⟨_, op_faR0 rfl (hs 1 rfl), rfl⟩⟩
            | 17, _, _ => exact .inl ⟨⟨rfl, hd 15 rfl⟩, op_ldI rfl rfl (hd 16 rfl) ((HE.out.to hb).get 0 rfl).a0⟩
            | 18, _, _ => exact .inl ⟨⟨rfl, hd 15 rfl⟩, op_call1 rfl rfl Try.call32 (rOf_rz f.n HK1.out _ _ (hd 17 rfl))⟩
            | 19, _, _ => exact .inl ⟨⟨rfl, hd 15 rfl⟩, ⟨_, op_faR1 rfl (hs 1 rfl), rfl⟩⟩
            | 20, _, _ => exact .inl ⟨⟨rfl, hd 15 rfl⟩, op_ldI rfl rfl (hd 19 rfl) ((HE.out.to hb).get 0 rfl).a2⟩
            | 21, _, _ => exact .inl ⟨⟨rfl, hd 15 rfl⟩, op_call1 rfl rfl Try.call32 (rOf_rz f.d HK2.out _ _ (hd 20 rfl))⟩
            | 22, _, _ => exact .inl ⟨⟨rfl, hd 15 rfl⟩, op_call2 rfl rfl Try.call96 (rCommon_got f.n.val f.d.val _ _ _ (hd 18 rfl) (hd 21 rfl) (by omega) (by omega))⟩
            | 23, _, _ => exact .inl ⟨⟨rfl, hd 15 rfl⟩, op_call1 rfl rfl Try.call24 (whole_one _)⟩
            | 24, _, _ => exact .inl ⟨⟨rfl, hd 15 rfl⟩, op_call2 rfl rfl Try.call34 (rOrd_got (zgcd f.n.val f.d.val) 1 _ _ _ (hd 22 rfl) (hd 23 rfl) (by omega) (by omega))⟩
            | 25, _, _ => exact .inl ⟨⟨rfl, hd 15 rfl⟩, pure_b HK4.out (⟨_, op_eql0 rfl (hd 24 rfl), rfl⟩)⟩
            | 26, _, _ => exact .inl ⟨rfl, ⟨_, op_pickT rfl (hd 15 rfl) (hd 25 rfl), rfl⟩⟩
            | i + 27, h, _ => omega
          · intro vs X1 hb hv hal hne
            replace HB := Hd.mk (bel_then HB.out hb)
            replace HE : Hd (Env X1 [⟨w.heap.size, 58, [rC f.n, rC f.d]⟩]) := ⟨HE.out.to hb⟩
            have e29 : vs 29 = .bool false := hv 26 (by decide) rfl
            simp only [putAll, List.foldl_cons, List.foldl_nil, Act.put, List.setIfInBounds_toArray, List.set_cons_succ, List.set_cons_zero, List.drop_succ_cons, List.drop_zero, e29]
            generalize vs 3 = s3
            generalize vs 4 = s4
            generalize vs 5 = s5
            generalize vs 6 = s6
            generalize vs 7 = s7
            generalize vs 8 = s8
            generalize vs 9 = s9
            generalize vs 10 = s10
            generalize vs 11 = s11
            generalize vs 12 = s12
            generalize vs 13 = s13
            generalize vs 14 = s14
            generalize vs 15 = s15
            generalize vs 16 = s16
            generalize vs 17 = s17
            generalize vs 18 = s18
            generalize vs 19 = s19
            generalize vs 20 = s20
            generalize vs 21 = s21
            generalize vs 22 = s22
            generalize vs 23 = s23
            generalize vs 24 = s24
            generalize vs 25 = s25
            generalize vs 26 = s26
            generalize vs 27 = s27
            generalize vs 28 = s28
            clear hv hal hne hb
            go_wp2_with fail
            go_ret
            exact ⟨_, rfl, HB.out, rfl⟩
      · have k3' : decide (0 < sgnv f.d.val) = false := by rw [sgnv_pos]; exact decide_eq_false k3
        rw [show f.ok = false by unfold RQ.ok; rw [decide_eq_false k3]; simp]
        have l1 := rC_len k1 p0
        have l2 := rC_len k2 q0
        have HK1 := Hd.mk k1
        have HK2 := Hd.mk k2
        have HK3 := Hd.mk k3'
        clear k1 k2 k3 k3'
        go_enter Try.func50, Try.ntmps50
        go_upto_region 1 with fail
        obtain ⟨W0, hW0⟩ : ∃ W : World, W = w.alloc (.cells #[u0, x0, y0, z0] 58) := ⟨_, rfl⟩
        rw [← hW0]
        obtain ⟨he, hb⟩ := env_one (cp2 p0 q0) hW0
        have HE := Hd.mk he
        have HB := Hd.mk hb
        clear he hb hW0
        refine wp_region_vg 27 [3, 4, 5, 6, 7, 8, 9, 10, 11, 12, 13, 14, 15, 16, 17, 18, 19, 20, 21, 22, 23, 24, 25, 26, 27, 28, 29] [0, 3, 4, 7, 8, 9, 13, 14, 15, 26] [] 70 [.bool false, .slice none 0 0] [isV (.pointer (some ⟨w.heap.size, 0, none⟩)), isL [rC f.n], isV (.bool true), isV (.bool true), isV (.pointer (some ⟨w.heap.size, 2, none⟩)), isL [rC f.d], isV (.bool true), isV (.bool true), isV (.bool true), isV (.pointer (some ⟨w.heap.size, 2, none⟩)), isL [rC f.d], isZ f.d.val, isV (.int .i64 (sgnv f.d.val)), isV (.bool false), isV (.bool false), isV (.bool false), SP.any, SP.any, SP.any, SP.any, SP.any, SP.any, SP.any, SP.any, SP.any, SP.any, isV (.bool false)] (by kernel_rfl) (by kernel_rfl) (by kernel_rfl) (by rfl) alloc_whole (fun d v c a w h => by cases d <;> exact h) ?_ ?_
        · intro i hi hA aa wx hb hs hd
          match i, hi, hA with
          | 0, _, _ => exact .inl ⟨rfl, ⟨_, op_faR0 rfl (hs 1 rfl), rfl⟩⟩
          | 1, _, _ => exact .inl ⟨rfl, op_ldI rfl rfl (hd 0 rfl) ((HE.out.to hb).get 0 rfl).a0⟩
          | 2, _, _ => exact .inl ⟨rfl, wp_b HK1.out (op_call1 rfl rfl Try.call22 (rValid_rz f.n _ _ (hd 1 rfl)))⟩
          | 3, _, _ => exact .inl ⟨rfl, op_mv rfl (hd 2 rfl)⟩
          | 4, _, _ => exact .inl ⟨⟨rfl, hd 3 rfl⟩, ⟨_, op_faR1 rfl (hs 1 rfl), rfl⟩⟩
          | 5, _, _ => exact .inl ⟨⟨rfl, hd 3 rfl⟩, op_ldI rfl rfl (hd 4 rfl) ((HE.out.to hb).get 0 rfl).a2⟩
          | 6, _, _ => exact .inl ⟨⟨rfl, hd 3 rfl⟩, wp_b HK2.out (op_call1 rfl rfl Try.call22 (rValid_rz f.d _ _ (hd 5 rfl)))⟩
          | 7, _, _ => exact .inl ⟨rfl, ⟨_, op_pickT rfl (hd 3 rfl) (hd 6 rfl), rfl⟩⟩
          | 8, _, _ => exact .inl ⟨rfl, op_mv rfl (hd 7 rfl)⟩
          | 9, _, _ => exact .inl ⟨⟨rfl, hd 8 rfl⟩, ⟨_, op_faR1 rfl (hs 1 rfl), rfl⟩⟩
          | 10, _, _ => exact .inl ⟨⟨rfl, hd 8 rfl⟩, op_ldI rfl rfl (hd 9 rfl) ((HE.out.to hb).get 0 rfl).a2⟩
          | 11, _, _ => exact .inl ⟨⟨rfl, hd 8 rfl⟩, op_call1 rfl rfl Try.call32 (rOf_rz f.d HK2.out _ _ (hd 10 rfl))⟩
          | 12, _, _ => exact .inl ⟨⟨rfl, hd 8 rfl⟩, op_call1 rfl rfl Try.call43 (rSign_got f.d.val _ _ (hd 11 rfl) (by omega))⟩
          | 13, _, _ => exact .inl ⟨⟨rfl, hd 8 rfl⟩, pure_b HK3.out (⟨_, op_gtr0 rfl (hd 12 rfl), rfl⟩)⟩
          | 14, _, _ => exact .inl ⟨rfl, ⟨_, op_pickT rfl (hd 8 rfl) (hd 13 rfl), rfl⟩⟩
          | 15, _, _ => exact .inl ⟨rfl, op_mv rfl (hd 14 rfl)⟩
          | 16, _, _ => exact .inr ⟨⟨rfl, hd 15 rfl⟩, trivial⟩
          | 17, _, _ => exact .inr ⟨⟨rfl, hd 15 rfl⟩, trivial⟩
          | 18, _, _ => exact .inr ⟨⟨rfl, hd 15 rfl⟩, trivial⟩
          | 19, _, _ => exact .inr ⟨⟨rfl, hd 15 rfl⟩, trivial⟩
          | 20, _, _ => exact .inr ⟨⟨rfl, hd 15 rfl⟩, trivial⟩
          | 21, _, _ => exact .inr ⟨⟨rfl, hd 15 rfl⟩, trivial⟩
          | 22, _, _ => exact .inr ⟨⟨rfl, hd 15 rfl⟩, trivial⟩
          | 23, _, _ => exact .inr ⟨⟨rfl, hd 15 rfl⟩, trivial⟩
          | 24, _, _ => exact .inr ⟨⟨rfl, hd 15 rfl⟩, trivial⟩
          | 25, _, _ => exact .inr ⟨⟨rfl, hd 15 rfl⟩, trivial⟩
          | 26, _, _ => exact .inl ⟨rfl, ⟨_, op_pickF rfl (hd 15 rfl) rfl, rfl⟩⟩
          | i + 27, h, _ => omega
        · intro vs X1 hb hv hal hne
          replace HB := Hd.mk (bel_then HB.out hb)
          replace HE : Hd (Env X1 [⟨w.heap.size, 58, [rC f.n, rC f.d]⟩]) := ⟨HE.out.to hb⟩
          have e29 : vs 29 = .bool false := hv 26 (by decide) rfl
          simp only [putAll, List.foldl_cons, List.foldl_nil, Act.put, List.setIfInBounds_toArray, List.set_cons_succ, List.set_cons_zero, List.drop_succ_cons, List.drop_zero, e29]
          generalize vs 3 = s3
          generalize vs 4 = s4
          generalize vs 5 = s5
          generalize vs 6 = s6
          generalize vs 7 = s7
          generalize vs 8 = s8
          generalize vs 9 = s9
          generalize vs 10 = s10
          generalize vs 11 = s11
          generalize vs 12 = s12
          generalize vs 13 = s13
          generalize vs 14 = s14
          generalize vs 15 = s15
          generalize vs 16 = s16
          generalize vs 17 = s17
          generalize vs 18 = s18
          generalize vs 19 = s19
          generalize vs 20 = s20
          generalize vs 21 = s21
          generalize vs 22 = s22
          generalize vs 23 = s23
          generalize vs 24 = s24
          generalize vs 25 = s25
          generalize vs 26 = s26
          generalize vs 27 = s27
          generalize vs 28 = s28
          clear hv hal hne hb
          go_wp2_with fail
          go_ret
          exact ⟨_, rfl, HB.out, rfl⟩
    · have k2' : f.d.ok = false := by simpa using k2
      rw [show f.ok = false by unfold RQ.ok; rw [k2', Bool.and_false]; rfl]
      have HK1 := Hd.mk k1
      have HK2 := Hd.mk k2'
      clear k1 k2 k2'
      go_enter Try.func50, Try.ntmps50
      go_upto_region 1 with fail
      obtain ⟨W0, hW0⟩ : ∃ W : World, W = w.alloc (.cells #[u0, x0, y0, z0] 58) := ⟨_, rfl⟩
      rw [← hW0]
      obtain ⟨he, hb⟩ := env_one (cp2 p0 q0) hW0
      have HE := Hd.mk he
      have HB := Hd.mk hb
      clear he hb hW0
      refine wp_region_vg 27 [3, 4, 5, 6, 7, 8, 9, 10, 11, 12, 13, 14, 15, 16, 17, 18, 19, 20, 21, 22, 23, 24, 25, 26, 27, 28, 29] [0, 3, 4, 7, 8, 14, 15, 26] [] 70 [.bool false, .slice none 0 0] [isV (.pointer (some ⟨w.heap.size, 0, none⟩)), isL [rC f.n], isV (.bool true), isV (.bool true), isV (.pointer (some ⟨w.heap.size, 2, none⟩)), isL [rC f.d], isV (.bool false), isV (.bool false), isV (.bool false), SP.any, SP.any, SP.any, SP.any, SP.any, isV (.bool false), isV (.bool false), SP.any, SP.any, SP.any, SP.any, SP.any, SP.any, SP.any, SP.any, SP.any, SP.any, isV (.bool false)] (by kernel_rfl) (by kernel_rfl) (by kernel_rfl) (by rfl) alloc_whole (fun d v c a w h => by cases d <;> exact h) ?_ ?_
      · intro i hi hA aa wx hb hs hd
        match i, hi, hA with
        | 0, _, _ => exact .inl ⟨rfl, ⟨_, op_faR0 rfl (hs 1 rfl), rfl⟩⟩
        | 1, _, _ => exact .inl ⟨rfl, op_ldI rfl rfl (hd 0 rfl) ((HE.out.to hb).get 0 rfl).a0⟩
        | 2, _, _ => exact .inl ⟨rfl, wp_b HK1.out (op_call1 rfl rfl Try.call22 (rValid_rz f.n _ _ (hd 1 rfl)))⟩
        | 3, _, _ => exact .inl ⟨rfl, op_mv rfl (hd 2 rfl)⟩
        | 4, _, _ => exact .inl ⟨⟨rfl, hd 3 rfl⟩, ⟨_, op_faR1 rfl (hs 1 rfl), rfl⟩⟩
        | 5, _, _ => exact .inl ⟨⟨rfl, hd 3 rfl⟩, op_ldI rfl rfl (hd 4 rfl) ((HE.out.to hb).get 0 rfl).a2⟩
        | 6, _, _ => exact .inl ⟨⟨rfl, hd 3 rfl⟩, wp_b HK2.out (op_call1 rfl rfl Try.call22 (rValid_rz f.d _ _ (hd 5 rfl)))⟩
        | 7, _, _ => exact .inl ⟨rfl, ⟨_, op_pickT rfl (hd 3 rfl) (hd 6 rfl), rfl⟩⟩
        | 8, _, _ => exact .inl ⟨rfl, op_mv rfl (hd 7 rfl)⟩
        | 9, _, _ => exact .inr ⟨⟨rfl, hd 8 rfl⟩, trivial⟩
        | 10, _, _ => exact .inr ⟨⟨rfl, hd 8 rfl⟩, trivial⟩
        | 11, _, _ => exact .inr ⟨⟨rfl, hd 8 rfl⟩, trivial⟩
        | 12, _, _ => exact .inr ⟨⟨rfl, hd 8 rfl⟩, trivial⟩
        | 13, _, _ => exact .inr ⟨⟨rfl, hd 8 rfl⟩, trivial⟩
        | 14, _, _ => exact .inl ⟨rfl, ⟨_, op_pickF rfl (hd 8 rfl) rfl, rfl⟩⟩
        | 15, _, _ => exact .inl ⟨rfl, op_mv rfl (hd 14 rfl)⟩
        | 16, _, _ => exact .inr ⟨⟨rfl, hd 15 rfl⟩, trivial⟩
        | 17, _, _ => exact .inr ⟨⟨rfl, hd 15 rfl⟩, trivial⟩
        | 18, _, _ => exact .inr ⟨⟨rfl, hd 15 rfl⟩, trivial⟩
        | 19, _, _ => exact .inr ⟨⟨rfl, hd 15 rfl⟩, trivial⟩
        | 20, _, _ => exact .inr ⟨⟨rfl, hd 15 rfl⟩, trivial⟩
        | 21, _, _ => exact .inr ⟨⟨rfl, hd 15 rfl⟩, trivial⟩
        | 22, _, _ => exact .inr ⟨⟨rfl, hd 15 rfl⟩, trivial⟩
        | 23, _, _ => exact .inr ⟨⟨rfl, hd 15 rfl⟩, trivial⟩
        | 24, _, _ => exact .inr ⟨⟨rfl, hd 15 rfl⟩, trivial⟩
        | 25, _, _ => exact .inr ⟨⟨rfl, hd 15 rfl⟩, trivial⟩
        | 26, _, _ => exact .inl ⟨rfl, ⟨_, op_pickF rfl (hd 15 rfl) rfl, rfl⟩⟩
        | i + 27, h, _ => omega
      · intro vs X1 hb hv hal hne
        replace HB := Hd.mk (bel_then HB.out hb)
        replace HE : Hd (Env X1 [⟨w.heap.size, 58, [rC f.n, rC f.d]⟩]) := ⟨HE.out.to hb⟩
        have e29 : vs 29 = .bool false := hv 26 (by decide) rfl
        simp only [putAll, List.foldl_cons, List.foldl_nil, Act.put, List.setIfInBounds_toArray, List.set_cons_succ, List.set_cons_zero, List.drop_succ_cons, List.drop_zero, e29]
        generalize vs 3 = s3
        generalize vs 4 = s4
        generalize vs 5 = s5
        generalize vs 6 = s6
        generalize vs 7 = s7
        generalize vs 8 = s8
        generalize vs 9 = s9
        generalize vs 10 = s10
        generalize vs 11 = s11
        generalize vs 12 = s12
        generalize vs 13 = s13
        generalize vs 14 = s14
        generalize vs 15 = s15
        generalize vs 16 = s16
        generalize vs 17 = s17
        generalize vs 18 = s18
        generalize vs 19 = s19
        generalize vs 20 = s20
        generalize vs 21 = s21
        generalize vs 22 = s22
        generalize vs 23 = s23
        generalize vs 24 = s24
        generalize vs 25 = s25
        generalize vs 26 = s26
        generalize vs 27 = s27
        generalize vs 28 = s28
        clear hv hal hne hb
        go_wp2_with fail
        go_ret
        exact ⟨_, rfl, HB.out, rfl⟩
  · have k1' : f.n.ok = false := by simpa using k1
    rw [show f.ok = false by unfold RQ.ok; rw [k1']; rfl]
    have HK1 := Hd.mk k1'
    clear k1 k1'
    go_enter Try.func50, Try.ntmps50
    go_upto_region 1 with fail
    obtain ⟨W0, hW0⟩ : ∃ W : World, W = w.alloc (.cells #[u0, x0, y0, z0] 58) := ⟨_, rfl⟩
    rw [← hW0]
    obtain ⟨he, hb⟩ := env_one (cp2 p0 q0) hW0
    have HE := Hd.mk he
    have HB := Hd.mk hb
    clear he hb hW0
    refine wp_region_vg 27 [3, 4, 5, 6, 7, 8, 9, 10, 11, 12, 13, 14, 15, 16, 17, 18, 19, 20, 21, 22, 23, 24, 25, 26, 27, 28, 29] [0, 3, 7, 8, 14, 15, 26] [] 70 [.bool false, .slice none 0 0] [isV (.pointer (some ⟨w.heap.size, 0, none⟩)), isL [rC f.n], isV (.bool false), isV (.bool false), SP.any, SP.any, SP.any, isV (.bool false), isV (.bool false), SP.any, SP.any, SP.any, SP.any, SP.any, isV (.bool false), isV (.bool false), SP.any, SP.any, SP.any, SP.any, SP.any, SP.any, SP.any, SP.any, SP.any, SP.any, isV (.bool false)] (by kernel_rfl) (by kernel_rfl) (by kernel_rfl) (by rfl) alloc_whole (fun d v c a w h => by cases d <;> exact h) ?_ ?_
    · intro i hi hA aa wx hb hs hd
      match i, hi, hA with
      | 0, _, _ => exact .inl ⟨rfl, ⟨_, op_faR0 rfl (hs 1 rfl), rfl⟩⟩
      | 1, _, _ => exact .inl ⟨rfl, op_ldI rfl rfl (hd 0 rfl) ((HE.out.to hb).get 0 rfl).a0⟩
      | 2, _, _ => exact .inl ⟨rfl, wp_b HK1.out (op_call1 rfl rfl Try.call22 (rValid_rz f.n _ _ (hd 1 rfl)))⟩
      | 3, _, _ => exact .inl ⟨rfl, op_mv rfl (hd 2 rfl)⟩
      | 4, _, _ => exact .inr ⟨⟨rfl, hd 3 rfl⟩, trivial⟩
      | 5, _, _ => exact .inr ⟨⟨rfl, hd 3 rfl⟩, trivial⟩
      | 6, _, _ => exact .inr ⟨⟨rfl, hd 3 rfl⟩, trivial⟩
      | 7, _, _ => exact .inl ⟨rfl, ⟨_, op_pickF rfl (hd 3 rfl) rfl, rfl⟩⟩
      | 8, _, _ => exact .inl ⟨rfl, op_mv rfl (hd 7 rfl)⟩
      | 9, _, _ => exact .inr ⟨⟨rfl, hd 8 rfl⟩, trivial⟩
      | 10, _, _ => exact .inr ⟨⟨rfl, hd 8 rfl⟩, trivial⟩
      | 11, _, _ => exact .inr ⟨⟨rfl, hd 8 rfl⟩, trivial⟩
      | 12, _, _ => exact .inr ⟨⟨rfl, hd 8 rfl⟩, trivial⟩
      | 13, _, _ => exact .inr ⟨⟨rfl, hd 8 rfl⟩, trivial⟩
      | 14, _, _ => exact .inl ⟨rfl, ⟨_, op_pickF rfl (hd 8 rfl) rfl, rfl⟩⟩
      | 15, _, _ => exact .inl ⟨rfl, op_mv rfl (hd 14 rfl)⟩
      | 16, _, _ => exact .inr ⟨⟨rfl, hd 15 rfl⟩, trivial⟩
      | 17, _, _ => exact .inr ⟨⟨rfl, hd 15 rfl⟩, trivial⟩
      | 18, _, _ => exact .inr ⟨⟨rfl, hd 15 rfl⟩, trivial⟩
      | 19, _, _ => exact .inr ⟨⟨rfl, hd 15 rfl⟩, trivial⟩
      | 20, _, _ => exact .inr ⟨⟨rfl, hd 15 rfl⟩, trivial⟩
      | 21, _, _ => exact .inr ⟨⟨rfl, hd 15 rfl⟩, trivial⟩
      | 22, _, _ => exact .inr ⟨⟨rfl, hd 15 rfl⟩, trivial⟩
      | 23, _, _ => exact .inr ⟨⟨rfl, hd 15 rfl⟩, trivial⟩
      | 24, _, _ => exact .inr ⟨⟨rfl, hd 15 rfl⟩, trivial⟩
      | 25, _, _ => exact .inr ⟨⟨rfl, hd 15 rfl⟩, trivial⟩
      | 26, _, _ => exact .inl ⟨rfl, ⟨_, op_pickF rfl (hd 15 rfl) rfl, rfl⟩⟩
      | i + 27, h, _ => omega
    · intro vs X1 hb hv hal hne
      replace HB := Hd.mk (bel_then HB.out hb)
      replace HE : Hd (Env X1 [⟨w.heap.size, 58, [rC f.n, rC f.d]⟩]) := ⟨HE.out.to hb⟩
      have e29 : vs 29 = .bool false := hv 26 (by decide) rfl
      simp only [putAll, List.foldl_cons, List.foldl_nil, Act.put, List.setIfInBounds_toArray, List.set_cons_succ, List.set_cons_zero, List.drop_succ_cons, List.drop_zero, e29]
      generalize vs 3 = s3
      generalize vs 4 = s4
      generalize vs 5 = s5
      generalize vs 6 = s6
      generalize vs 7 = s7
      generalize vs 8 = s8
      generalize vs 9 = s9
      generalize vs 10 = s10
      generalize vs 11 = s11
      generalize vs 12 = s12
      generalize vs 13 = s13
      generalize vs 14 = s14
      generalize vs 15 = s15
      generalize vs 16 = s16
      generalize vs 17 = s17
      generalize vs 18 = s18
      generalize vs 19 = s19
      generalize vs 20 = s20
      generalize vs 21 = s21
      generalize vs 22 = s22
      generalize vs 23 = s23
      generalize vs 24 = s24
      generalize vs 25 = s25
      generalize vs 26 = s26
      generalize vs 27 = s27
      generalize vs 28 = s28
      clear hv hal hne hb
      go_wp2_with fail
      go_ret
      exact ⟨_, rfl, HB.out, rfl⟩
set_option maxRecDepth 100000 in
set_option maxHeartbeats 1000000 in
theorem twoadd_got (f g : RQ) (v0 v1 : Value) (w : World) (h0 : (isL [rC f.n, rC f.d]).p v0 w) (h1 : (isL [rC g.n, rC g.d]).p v1 w) :
    Calls Try.prog 99 #[v0, v1, .func (.func 100) #[] #[]] w (Got w (isP (isL [zC (rqn f g (f.n.val * g.d.val + g.n.val * f.d.val) (f.d.val * g.d.val)), zC (rqd f g (f.n.val * g.d.val + g.n.val * f.d.val) (f.d.val * g.d.val))]) (isV (.int .i64 (rqe f g (f.n.val * g.d.val + g.n.val * f.d.val) (f.d.val * g.d.val))))).p) := by
  obtain ⟨u0, x0, y0, z0, rfl, p0, q0⟩ := isL_two.1 h0
  obtain ⟨u1, x1, y1, z1, rfl, p1, q1⟩ := isL_two.1 h1
  clear h0 h1
  by_cases hok : (f.ok && g.ok) = true
  · have hf : f.ok = true := by simp at hok; exact hok.1
    have hg : g.ok = true := by simp at hok; exact hok.2
    obtain ⟨l1, l2⟩ := ok_lens hf p0 q0
    obtain ⟨l3, l4⟩ := ok_lens hg p1 q1
    have HOf := Hd.mk hf
    have HOg := Hd.mk hg
    have HB0 : Hd (f.d.val ≠ 0) := ⟨by have := RQ.ok_pos hf; omega⟩
    have HD0 : Hd (g.d.val ≠ 0) := ⟨by have := RQ.ok_pos hg; omega⟩
    have HOK : Hd ([f, g].all RQ.ok = true) := ⟨by rw [all_rq2]; exact hok⟩
    have bD : ln (f.d.val * g.d.val).natAbs ≤ 2000 := Nat.le_trans (ln_zmul _ _) (by omega)
    have b1 : ln (f.n.val * g.d.val).natAbs ≤ 1000 := Nat.le_trans (ln_zmul _ _) (by omega)
    have b2 : ln (g.n.val * f.d.val).natAbs ≤ 1000 := Nat.le_trans (ln_zmul _ _) (by omega)
    have bN : ln (f.n.val * g.d.val + g.n.val * f.d.val).natAbs ≤ 2000 := Nat.le_trans (ln_zadd _ _) (by omega)
    have HL1 : Hd (ln (qn (f.n.val * g.d.val + g.n.val * f.d.val) (f.d.val * g.d.val)).natAbs ≤ 100000) := ⟨Nat.le_trans (ln_qn _ _) (by omega)⟩
    have HL2 : Hd (ln (qd (f.n.val * g.d.val + g.n.val * f.d.val) (f.d.val * g.d.val)).natAbs ≤ 100000) := ⟨Nat.le_trans (ln_qd _ _) (by omega)⟩
    have e1 : rqn f g (f.n.val * g.d.val + g.n.val * f.d.val) (f.d.val * g.d.val) = fitn (qn (f.n.val * g.d.val + g.n.val * f.d.val) (f.d.val * g.d.val)) (qd (f.n.val * g.d.val + g.n.val * f.d.val) (f.d.val * g.d.val)) := if_pos hok
    have e2 : rqd f g (f.n.val * g.d.val + g.n.val * f.d.val) (f.d.val * g.d.val) = fitd (qn (f.n.val * g.d.val + g.n.val * f.d.val) (f.d.val * g.d.val)) (qd (f.n.val * g.d.val + g.n.val * f.d.val) (f.d.val * g.d.val)) := if_pos hok
    have e3 : rqe f g (f.n.val * g.d.val + g.n.val * f.d.val) (f.d.val * g.d.val) = fitc (qn (f.n.val * g.d.val + g.n.val * f.d.val) (f.d.val * g.d.val)) (qd (f.n.val * g.d.val + g.n.val * f.d.val) (f.d.val * g.d.val)) := if_pos hok
    rw [e1, e2, e3]
    clear e1 e2 e3 hok hf hg
    go_enter Try.func99, Try.ntmps99
    go_upto_region 1 with fail
    obtain ⟨W0, hW0⟩ : ∃ W : World, W = ((w.alloc (.cells #[u0, x0, y0, z0] 58)).alloc (.cells #[u1, x1, y1, z1] 58)).alloc (.cells #[Value.bool false, Value.slice none 0 0, Value.bool false, Value.slice none 0 0] 58) := ⟨_, rfl⟩
    rw [← hW0]
    obtain ⟨he, hb⟩ := env_three (cp2 p0 q0) (cp2 p1 q1) (cp2 (cp0 _) (cp0 _)) hW0
    have HE := Hd.mk he
    have HB := Hd.mk hb
    clear he hb hW0
    refine wp_region_vd 5 [8, 9, 10, 11, 12] [4] [] 70 [.bool false, .slice none 0 0] [isL [rC f.n, rC f.d], isL [rC g.n, rC g.d], isRats [f, g], isV (.bool true), isV (.bool false)] (by rfl) alloc_whole ?_ ?_
    · intro i hi hA aa wx hb hs hd
      match i, hi, hA with
      | 0, _, _ => exact .inl ⟨rfl, op_ldR rfl rfl (hs 3 rfl) ((HE.out.to hb).get 0 rfl)⟩
      | 1, _, _ => exact .inl ⟨rfl, op_ldR rfl rfl (hs 4 rfl) ((HE.out.to hb).get 1 rfl)⟩
      | 2, _, _ => exact .inl ⟨rfl, op_bsR2 rfl rfl (hd 0 rfl) (hd 1 rfl)⟩
      | 3, _, _ => exact .inl ⟨rfl, wp_b HOK.out (op_call1 rfl rfl Try.call102 (validRats_got [f, g] (by show 2 ≤ 2; omega) _ _ (hd 2 rfl)))⟩
      | 4, _, _ => exact .inl ⟨rfl, ⟨_, op_not rfl (hd 3 rfl), rfl⟩⟩
      | i + 5, h, _ => omega
    · intro vs X1 hb hv hal hne
      replace HB := Hd.mk (bel_then HB.out hb)
      replace HE : Hd (Env X1 [⟨w.heap.size, 58, [rC f.n, rC f.d]⟩, ⟨w.heap.size + 1, 58, [rC g.n, rC g.d]⟩, ⟨w.heap.size + 1 + 1, 58, [zC 0, zC 0]⟩]) := ⟨HE.out.to hb⟩
      have e12 : vs 12 = .bool false := hv 4 (by decide) rfl
      simp only [putAll, List.foldl_cons, List.foldl_nil, Act.put, List.setIfInBounds_toArray, List.set_cons_succ, List.set_cons_zero, List.drop_succ_cons, List.drop_zero, e12]
      generalize vs 8 = s8
      generalize vs 9 = s9
      generalize vs 10 = s10
      generalize vs 11 = s11
      clear hv hal hne hb
      go_upto_region 3 with fail
      refine wp_region_vs 9 [14, 15, 16, 17, 18, 19, 20, 21, 22] [0, 7, 8] [] 70 [.bool false, .slice none 0 0] [isV (.func (.func 100) #[] #[]), isL [rC f.n, rC f.d], isL [zC f.n.val, zC f.d.val], isL [rC g.n, rC g.d], isL [zC g.n.val, zC g.d.val], isL [zC (qn (f.n.val * g.d.val + g.n.val * f.d.val) (f.d.val * g.d.val)), zC (qd (f.n.val * g.d.val + g.n.val * f.d.val) (f.d.val * g.d.val))], isP (isL [zC (fitn (qn (f.n.val * g.d.val + g.n.val * f.d.val) (f.d.val * g.d.val)) (qd (f.n.val * g.d.val + g.n.val * f.d.val) (f.d.val * g.d.val))), zC (fitd (qn (f.n.val * g.d.val + g.n.val * f.d.val) (f.d.val * g.d.val)) (qd (f.n.val * g.d.val + g.n.val * f.d.val) (f.d.val * g.d.val)))]) (isV (.int .i64 (fitc (qn (f.n.val * g.d.val + g.n.val * f.d.val) (f.d.val * g.d.val)) (qd (f.n.val * g.d.val + g.n.val * f.d.val) (f.d.val * g.d.val))))), isL [zC (fitn (qn (f.n.val * g.d.val + g.n.val * f.d.val) (f.d.val * g.d.val)) (qd (f.n.val * g.d.val + g.n.val * f.d.val) (f.d.val * g.d.val))), zC (fitd (qn (f.n.val * g.d.val + g.n.val * f.d.val) (f.d.val * g.d.val)) (qd (f.n.val * g.d.val + g.n.val * f.d.val) (f.d.val * g.d.val)))], isV (.int .i64 (fitc (qn (f.n.val * g.d.val + g.n.val * f.d.val) (f.d.val * g.d.val)) (qd (f.n.val * g.d.val + g.n.val * f.d.val) (f.d.val * g.d.val))))] (by kernel_rfl) (by kernel_rfl) (by kernel_rfl) (by rfl) alloc_whole (fun d v c a w h => by cases d <;> exact h) ?_ ?_
      · intro i hi hA aa wx hb hs hd
        match i, hi, hA with
        | 0, _, _ => exact op_mv rfl (hs 2 rfl)
        | 1, _, _ => exact op_ldR rfl rfl (hs 3 rfl) ((HE.out.to hb).get 0 rfl)
        | 2, _, _ => exact op_call1 rfl rfl Try.call103 (ratOf_got f HOf.out _ _ (hd 1 rfl))
        | 3, _, _ => exact op_ldR rfl rfl (hs 4 rfl) ((HE.out.to hb).get 1 rfl)
        | 4, _, _ => exact op_call1 rfl rfl Try.call103 (ratOf_got g HOg.out _ _ (hd 3 rfl))
        | 5, _, _ => exact op_callv2 (hd 0 rfl) rfl rfl Try.call100 (qadd_got f.n.val f.d.val g.n.val g.d.val _ _ _ (hd 2 rfl) (hd 4 rfl) HB0.out HD0.out (by omega) (by omega) (by omega) (by omega))
        | 6, _, _ => exact op_call1 rfl rfl Try.call131 (qfits_got (qn (f.n.val * g.d.val + g.n.val * f.d.val) (f.d.val * g.d.val)) (qd (f.n.val * g.d.val + g.n.val * f.d.val) (f.d.val * g.d.val)) HL1.out HL2.out _ _ (hd 5 rfl))
        | 7, _, _ => exact op_fst rfl (hd 6 rfl)
        | 8, _, _ => exact op_snd rfl (hd 6 rfl)
        | i + 9, h, _ => omega
      · intro vs X2 hb hv hal hne
        replace HB := Hd.mk (bel_then HB.out hb)
        replace HE : Hd (Env X2 [⟨w.heap.size, 58, [rC f.n, rC f.d]⟩, ⟨w.heap.size + 1, 58, [rC g.n, rC g.d]⟩, ⟨w.heap.size + 1 + 1, 58, [zC 0, zC 0]⟩]) := ⟨HE.out.to hb⟩
        have t21 : (isL [zC (fitn (qn (f.n.val * g.d.val + g.n.val * f.d.val) (f.d.val * g.d.val)) (qd (f.n.val * g.d.val + g.n.val * f.d.val) (f.d.val * g.d.val))), zC (fitd (qn (f.n.val * g.d.val + g.n.val * f.d.val) (f.d.val * g.d.val)) (qd (f.n.val * g.d.val + g.n.val * f.d.val) (f.d.val * g.d.val)))]).p (vs 21) X2 := hv 7 (by decide) rfl
        obtain ⟨u21, y21, p21, q21, e21, c21, k21⟩ := isL_two.1 t21
        have e22 : vs 22 = .int .i64 (fitc (qn (f.n.val * g.d.val + g.n.val * f.d.val) (f.d.val * g.d.val)) (qd (f.n.val * g.d.val + g.n.val * f.d.val) (f.d.val * g.d.val))) := hv 8 (by decide) rfl
        simp only [putAll, List.foldl_cons, List.foldl_nil, Act.put, List.setIfInBounds_toArray, List.set_cons_succ, List.set_cons_zero, List.drop_succ_cons, List.drop_zero, e21, e22]
        generalize vs 14 = s14
        generalize vs 15 = s15
        generalize vs 16 = s16
        generalize vs 17 = s17
        generalize vs 18 = s18
        generalize vs 19 = s19
        generalize vs 20 = s20
        refine wpList_st rfl rfl rfl rfl rfl (sto_R c21 k21 (HE.out.get 2 rfl)) ?_
        have HE' : Env (putAt (putAt X2 (w.heap.size + 1 + 1) 0 u21 y21) (w.heap.size + 1 + 1) 2 p21 q21) [⟨w.heap.size, 58, [rC f.n, rC f.d]⟩, ⟨w.heap.size + 1, 58, [rC g.n, rC g.d]⟩, ⟨w.heap.size + 1 + 1, 58, [zC (fitn (qn (f.n.val * g.d.val + g.n.val * f.d.val) (f.d.val * g.d.val)) (qd (f.n.val * g.d.val + g.n.val * f.d.val) (f.d.val * g.d.val))), zC (fitd (qn (f.n.val * g.d.val + g.n.val * f.d.val) (f.d.val * g.d.val)) (qd (f.n.val * g.d.val + g.n.val * f.d.val) (f.d.val * g.d.val)))]⟩] := HE.out.put4 2 rfl c21 k21
        have HB' := below_put4 (u := u21) (v := y21) (u' := p21) (v' := q21) HB.out (show w.heap.size ≤ w.heap.size + 1 + 1 from by omega)
        generalize putAt (putAt X2 (w.heap.size + 1 + 1) 0 u21 y21) (w.heap.size + 1 + 1) 2 p21 q21 = X3 at *
        replace HE := Hd.mk HE'
        replace HB := Hd.mk HB'
        clear HE' HB'
        clear hv hal hne hb
        go_wp2_with fail
        obtain ⟨r0a, r0b, r0c, r0d, k0a, k0b, k0c, k0d, h0a, h0b⟩ := (HE.out.get 2 rfl).cells2
        refine bodyPost_ret (v := .tuple #[.agg #[r0a, r0b, r0c, r0d], .int .i64 (fitc (qn (f.n.val * g.d.val + g.n.val * f.d.val) (f.d.val * g.d.val)) (qd (f.n.val * g.d.val + g.n.val * f.d.val) (f.d.val * g.d.val)))]) (by simp [results, Try.results99, go_sem, k0a, k0b, k0c, k0d]) rfl ?_
        exact ⟨_, rfl, HB.out, _, _, rfl, isL_two.2 ⟨_, _, _, _, rfl, h0a, h0b⟩, rfl⟩
  · have hno : (f.ok && g.ok) = false := by simpa using hok
    have HOK : Hd ([f, g].all RQ.ok = false) := ⟨by rw [all_rq2]; exact hno⟩
    have e1 : rqn f g (f.n.val * g.d.val + g.n.val * f.d.val) (f.d.val * g.d.val) = 0 := if_neg hok
    have e2 : rqd f g (f.n.val * g.d.val + g.n.val * f.d.val) (f.d.val * g.d.val) = 0 := if_neg hok
    have e3 : rqe f g (f.n.val * g.d.val + g.n.val * f.d.val) (f.d.val * g.d.val) = 2 := if_neg hok
    rw [e1, e2, e3]
    clear e1 e2 e3 hok hno
    go_enter Try.func99, Try.ntmps99
    go_upto_region 1 with fail
    obtain ⟨W0, hW0⟩ : ∃ W : World, W = ((w.alloc (.cells #[u0, x0, y0, z0] 58)).alloc (.cells #[u1, x1, y1, z1] 58)).alloc (.cells #[Value.bool false, Value.slice none 0 0, Value.bool false, Value.slice none 0 0] 58) := ⟨_, rfl⟩
    rw [← hW0]
    obtain ⟨he, hb⟩ := env_three (cp2 p0 q0) (cp2 p1 q1) (cp2 (cp0 _) (cp0 _)) hW0
    have HE := Hd.mk he
    have HB := Hd.mk hb
    clear he hb hW0
    refine wp_region_vd 5 [8, 9, 10, 11, 12] [4] [] 70 [.bool false, .slice none 0 0] [isL [rC f.n, rC f.d], isL [rC g.n, rC g.d], isRats [f, g], isV (.bool false), isV (.bool true)] (by rfl) alloc_whole ?_ ?_
    · intro i hi hA aa wx hb hs hd
      match i, hi, hA with
      | 0, _, _ => exact .inl ⟨rfl, op_ldR rfl rfl (hs 3 rfl) ((HE.out.to hb).get 0 rfl)⟩
      | 1, _, _ => exact .inl ⟨rfl, op_ldR rfl rfl (hs 4 rfl) ((HE.out.to hb).get 1 rfl)⟩
      | 2, _, _ => exact .inl ⟨rfl, op_bsR2 rfl rfl (hd 0 rfl) (hd 1 rfl)⟩
      | 3, _, _ => exact .inl ⟨rfl, wp_b HOK.out (op_call1 rfl rfl Try.call102 (validRats_got [f, g] (by show 2 ≤ 2; omega) _ _ (hd 2 rfl)))⟩
      | 4, _, _ => exact .inl ⟨rfl, ⟨_, op_not rfl (hd 3 rfl), rfl⟩⟩
      | i + 5, h, _ => omega
    · intro vs X1 hb hv hal hne
      replace HB := Hd.mk (bel_then HB.out hb)
      replace HE : Hd (Env X1 [⟨w.heap.size, 58, [rC f.n, rC f.d]⟩, ⟨w.heap.size + 1, 58, [rC g.n, rC g.d]⟩, ⟨w.heap.size + 1 + 1, 58, [zC 0, zC 0]⟩]) := ⟨HE.out.to hb⟩
      have e12 : vs 12 = .bool true := hv 4 (by decide) rfl
      simp only [putAll, List.foldl_cons, List.foldl_nil, Act.put, List.setIfInBounds_toArray, List.set_cons_succ, List.set_cons_zero, List.drop_succ_cons, List.drop_zero, e12]
      generalize vs 8 = s8
      generalize vs 9 = s9
      generalize vs 10 = s10
      generalize vs 11 = s11
      clear hv hal hne hb
      go_upto_region 2 with fail
      refine wp_region_vd 1 [13] [0] [] 70 [.bool false, .slice none 0 0] [isL [zC 0, zC 0]] (by rfl) alloc_whole ?_ ?_
      · intro i hi hA aa wx hb hs hd
        match i, hi, hA with
        | 0, _, _ => exact .inl ⟨rfl, op_b0R rfl⟩
        | i + 1, h, _ => omega
      · intro vs X2 hb hv hal hne
        replace HB := Hd.mk (bel_then HB.out hb)
        replace HE : Hd (Env X2 [⟨w.heap.size, 58, [rC f.n, rC f.d]⟩, ⟨w.heap.size + 1, 58, [rC g.n, rC g.d]⟩, ⟨w.heap.size + 1 + 1, 58, [zC 0, zC 0]⟩]) := ⟨HE.out.to hb⟩
        have t13 : (isL [zC 0, zC 0]).p (vs 13) X2 := hv 0 (by decide) rfl
        obtain ⟨u13, y13, p13, q13, e13, c13, k13⟩ := isL_two.1 t13
        simp only [putAll, List.foldl_cons, List.foldl_nil, Act.put, List.setIfInBounds_toArray, List.set_cons_succ, List.set_cons_zero, List.drop_succ_cons, List.drop_zero, e13]
        refine wpList_st rfl rfl rfl rfl rfl (sto_R c13 k13 (HE.out.get 2 rfl)) ?_
        have HE' : Env (putAt (putAt X2 (w.heap.size + 1 + 1) 0 u13 y13) (w.heap.size + 1 + 1) 2 p13 q13) [⟨w.heap.size, 58, [rC f.n, rC f.d]⟩, ⟨w.heap.size + 1, 58, [rC g.n, rC g.d]⟩, ⟨w.heap.size + 1 + 1, 58, [zC 0, zC 0]⟩] := HE.out.put4 2 rfl c13 k13
        have HB' := below_put4 (u := u13) (v := y13) (u' := p13) (v' := q13) HB.out (show w.heap.size ≤ w.heap.size + 1 + 1 from by omega)
        generalize putAt (putAt X2 (w.heap.size + 1 + 1) 0 u13 y13) (w.heap.size + 1 + 1) 2 p13 q13 = X3 at *
        replace HE := Hd.mk HE'
        replace HB := Hd.mk HB'
        clear HE' HB'
        clear hv hal hne hb
        go_wp2_with fail
        obtain ⟨r0a, r0b, r0c, r0d, k0a, k0b, k0c, k0d, h0a, h0b⟩ := (HE.out.get 2 rfl).cells2
        refine bodyPost_ret (v := .tuple #[.agg #[r0a, r0b, r0c, r0d], .int .i64 2]) (by simp [results, Try.results99, go_sem, k0a, k0b, k0c, k0d]) rfl ?_
        exact ⟨_, rfl, HB.out, _, _, rfl, isL_two.2 ⟨_, _, _, _, rfl, h0a, h0b⟩, rfl⟩
set_option maxRecDepth 100000 in
set_option maxHeartbeats 1000000 in
theorem RatAdd_got (f g : RQ) (v0 v1 : Value) (w : World) (h0 : (isL [rC f.n, rC f.d]).p v0 w) (h1 : (isL [rC g.n, rC g.d]).p v1 w) :
    Calls Try.prog 51 #[v0, v1] w (Got w (isP (isL [zC (rqn f g (f.n.val * g.d.val + g.n.val * f.d.val) (f.d.val * g.d.val)), zC (rqd f g (f.n.val * g.d.val + g.n.val * f.d.val) (f.d.val * g.d.val))]) (isV (.int .i64 (rqe f g (f.n.val * g.d.val + g.n.val * f.d.val) (f.d.val * g.d.val))))).p) := by
  obtain ⟨u0, x0, y0, z0, rfl, p0, q0⟩ := isL_two.1 h0
  obtain ⟨u1, x1, y1, z1, rfl, p1, q1⟩ := isL_two.1 h1
  clear h0 h1
  go_enter Try.func51, Try.ntmps51
  go_upto_region 1 with fail
  obtain ⟨W0, hW0⟩ : ∃ W : World, W = ((w.alloc (.cells #[u0, x0, y0, z0] 58)).alloc (.cells #[u1, x1, y1, z1] 58)).alloc (.cells #[Value.bool false, Value.slice none 0 0, Value.bool false, Value.slice none 0 0] 58) := ⟨_, rfl⟩
  rw [← hW0]
  obtain ⟨he, hb⟩ := env_three (cp2 p0 q0) (cp2 p1 q1) (cp2 (cp0 _) (cp0 _)) hW0
  have HE := Hd.mk he
  have HB := Hd.mk hb
  clear he hb hW0
  refine wp_region_vd 5 [6, 7, 8, 9, 10] [3, 4] [] 70 [.bool false, .slice none 0 0] [isL [rC f.n, rC f.d], isL [rC g.n, rC g.d], isP (isL [zC (rqn f g (f.n.val * g.d.val + g.n.val * f.d.val) (f.d.val * g.d.val)), zC (rqd f g (f.n.val * g.d.val + g.n.val * f.d.val) (f.d.val * g.d.val))]) (isV (.int .i64 (rqe f g (f.n.val * g.d.val + g.n.val * f.d.val) (f.d.val * g.d.val)))), isL [zC (rqn f g (f.n.val * g.d.val + g.n.val * f.d.val) (f.d.val * g.d.val)), zC (rqd f g (f.n.val * g.d.val + g.n.val * f.d.val) (f.d.val * g.d.val))], isV (.int .i64 (rqe f g (f.n.val * g.d.val + g.n.val * f.d.val) (f.d.val * g.d.val)))] (by rfl) alloc_whole ?_ ?_
  · intro i hi hA aa wx hb hs hd
    match i, hi, hA with
    | 0, _, _ => exact .inl ⟨rfl, op_ldR rfl rfl (hs 2 rfl) ((HE.out.to hb).get 0 rfl)⟩
    | 1, _, _ => exact .inl ⟨rfl, op_ldR rfl rfl (hs 3 rfl) ((HE.out.to hb).get 1 rfl)⟩
    | 2, _, _ => exact .inl ⟨rfl, op_call3 rfl rfl Try.call99 (twoadd_got f g _ _ _ (hd 0 rfl) (hd 1 rfl))⟩
    | 3, _, _ => exact .inl ⟨rfl, op_fst rfl (hd 2 rfl)⟩
    | 4, _, _ => exact .inl ⟨rfl, op_snd rfl (hd 2 rfl)⟩
    | i + 5, h, _ => omega
  · intro vs X1 hb hv hal hne
    replace HB := Hd.mk (bel_then HB.out hb)
    replace HE : Hd (Env X1 [⟨w.heap.size, 58, [rC f.n, rC f.d]⟩, ⟨w.heap.size + 1, 58, [rC g.n, rC g.d]⟩, ⟨w.heap.size + 1 + 1, 58, [zC 0, zC 0]⟩]) := ⟨HE.out.to hb⟩
    have t9 : (isL [zC (rqn f g (f.n.val * g.d.val + g.n.val * f.d.val) (f.d.val * g.d.val)), zC (rqd f g (f.n.val * g.d.val + g.n.val * f.d.val) (f.d.val * g.d.val))]).p (vs 9) X1 := hv 3 (by decide) rfl
    obtain ⟨u9, y9, p9, q9, e9, c9, k9⟩ := isL_two.1 t9
    have e10 : vs 10 = .int .i64 (rqe f g (f.n.val * g.d.val + g.n.val * f.d.val) (f.d.val * g.d.val)) := hv 4 (by decide) rfl
    simp only [putAll, List.foldl_cons, List.foldl_nil, Act.put, List.setIfInBounds_toArray, List.set_cons_succ, List.set_cons_zero, List.drop_succ_cons, List.drop_zero, e9, e10]
    generalize vs 6 = s6
    generalize vs 7 = s7
    generalize vs 8 = s8
    refine wpList_st rfl rfl rfl rfl rfl (sto_R c9 k9 (HE.out.get 2 rfl)) ?_
    have HE' : Env (putAt (putAt X1 (w.heap.size + 1 + 1) 0 u9 y9) (w.heap.size + 1 + 1) 2 p9 q9) [⟨w.heap.size, 58, [rC f.n, rC f.d]⟩, ⟨w.heap.size + 1, 58, [rC g.n, rC g.d]⟩, ⟨w.heap.size + 1 + 1, 58, [zC (rqn f g (f.n.val * g.d.val + g.n.val * f.d.val) (f.d.val * g.d.val)), zC (rqd f g (f.n.val * g.d.val + g.n.val * f.d.val) (f.d.val * g.d.val))]⟩] := HE.out.put4 2 rfl c9 k9
    have HB' := below_put4 (u := u9) (v := y9) (u' := p9) (v' := q9) HB.out (show w.heap.size ≤ w.heap.size + 1 + 1 from by omega)
    generalize putAt (putAt X1 (w.heap.size + 1 + 1) 0 u9 y9) (w.heap.size + 1 + 1) 2 p9 q9 = X2 at *
    replace HE := Hd.mk HE'
    replace HB := Hd.mk HB'
    clear HE' HB'
    clear hv hal hne hb
    go_wp2_with fail
    obtain ⟨r0a, r0b, r0c, r0d, k0a, k0b, k0c, k0d, h0a, h0b⟩ := (HE.out.get 2 rfl).cells2
    refine bodyPost_ret (v := .tuple #[.agg #[r0a, r0b, r0c, r0d], .int .i64 (rqe f g (f.n.val * g.d.val + g.n.val * f.d.val) (f.d.val * g.d.val))]) (by simp [results, Try.results51, go_sem, k0a, k0b, k0c, k0d]) rfl ?_
    exact ⟨_, rfl, HB.out, _, _, rfl, isL_two.2 ⟨_, _, _, _, rfl, h0a, h0b⟩, rfl⟩
set_option maxRecDepth 100000 in
set_option maxHeartbeats 1000000 in
theorem rAdd_got (f g : RQ) (v0 v1 : Value) (w : World) (h0 : (isL [rC f.n, rC f.d]).p v0 w) (h1 : (isL [rC g.n, rC g.d]).p v1 w) :
    Calls Try.prog 59 #[v0, v1] w (Got w (isP (isL [zC (rqn f g (f.n.val * g.d.val + g.n.val * f.d.val) (f.d.val * g.d.val)), zC (rqd f g (f.n.val * g.d.val + g.n.val * f.d.val) (f.d.val * g.d.val))]) (isV (.int .i64 (rqe f g (f.n.val * g.d.val + g.n.val * f.d.val) (f.d.val * g.d.val))))).p) := by
  obtain ⟨u0, x0, y0, z0, rfl, p0, q0⟩ := isL_two.1 h0
  obtain ⟨u1, x1, y1, z1, rfl, p1, q1⟩ := isL_two.1 h1
  clear h0 h1
  by_cases hok : (f.ok && g.ok) = true
  · have hf : f.ok = true := by simp at hok; exact hok.1
    have hg : g.ok = true := by simp at hok; exact hok.2
    obtain ⟨l1, l2⟩ := ok_lens hf p0 q0
    obtain ⟨l3, l4⟩ := ok_lens hg p1 q1
    have HOf := Hd.mk hf
    have HOg := Hd.mk hg
    have HB0 : Hd (f.d.val ≠ 0) := ⟨by have := RQ.ok_pos hf; omega⟩
    have HD0 : Hd (g.d.val ≠ 0) := ⟨by have := RQ.ok_pos hg; omega⟩
    have HOK : Hd ([f, g].all RQ.ok = true) := ⟨by rw [all_rq2]; exact hok⟩
    have bD : ln (f.d.val * g.d.val).natAbs ≤ 2000 := Nat.le_trans (ln_zmul _ _) (by omega)
    have b1 : ln (f.n.val * g.d.val).natAbs ≤ 1000 := Nat.le_trans (ln_zmul _ _) (by omega)
    have b2 : ln (g.n.val * f.d.val).natAbs ≤ 1000 := Nat.le_trans (ln_zmul _ _) (by omega)
    have bN : ln (f.n.val * g.d.val + g.n.val * f.d.val).natAbs ≤ 2000 := Nat.le_trans (ln_zadd _ _) (by omega)
    have HL1 : Hd (ln (qn (f.n.val * g.d.val + g.n.val * f.d.val) (f.d.val * g.d.val)).natAbs ≤ 100000) := ⟨Nat.le_trans (ln_qn _ _) (by omega)⟩
    have HL2 : Hd (ln (qd (f.n.val * g.d.val + g.n.val * f.d.val) (f.d.val * g.d.val)).natAbs ≤ 100000) := ⟨Nat.le_trans (ln_qd _ _) (by omega)⟩
    have e1 : rqn f g (f.n.val * g.d.val + g.n.val * f.d.val) (f.d.val * g.d.val) = fitn (qn (f.n.val * g.d.val + g.n.val * f.d.val) (f.d.val * g.d.val)) (qd (f.n.val * g.d.val + g.n.val * f.d.val) (f.d.val * g.d.val)) := if_pos hok
    have e2 : rqd f g (f.n.val * g.d.val + g.n.val * f.d.val) (f.d.val * g.d.val) = fitd (qn (f.n.val * g.d.val + g.n.val * f.d.val) (f.d.val * g.d.val)) (qd (f.n.val * g.d.val + g.n.val * f.d.val) (f.d.val * g.d.val)) := if_pos hok
    have e3 : rqe f g (f.n.val * g.d.val + g.n.val * f.d.val) (f.d.val * g.d.val) = fitc (qn (f.n.val * g.d.val + g.n.val * f.d.val) (f.d.val * g.d.val)) (qd (f.n.val * g.d.val + g.n.val * f.d.val) (f.d.val * g.d.val)) := if_pos hok
    rw [e1, e2, e3]
    clear e1 e2 e3 hok hf hg
    go_enter Try.func59, Try.ntmps59
    go_upto_region 1 with fail
    obtain ⟨W0, hW0⟩ : ∃ W : World, W = ((w.alloc (.cells #[u0, x0, y0, z0] 58)).alloc (.cells #[u1, x1, y1, z1] 58)).alloc (.cells #[Value.bool false, Value.slice none 0 0, Value.bool false, Value.slice none 0 0] 58) := ⟨_, rfl⟩
    rw [← hW0]
    obtain ⟨he, hb⟩ := env_three (cp2 p0 q0) (cp2 p1 q1) (cp2 (cp0 _) (cp0 _)) hW0
    have HE := Hd.mk he
    have HB := Hd.mk hb
    clear he hb hW0
    refine wp_region_vd 8 [6, 7, 8, 9, 10, 11, 12, 13] [2, 3, 6, 7] [] 70 [.bool false, .slice none 0 0] [isL [rC f.n, rC f.d], isV (.bool true), isV (.bool false), isV (.bool false), isL [rC g.n, rC g.d], isV (.bool true), isV (.bool false), isV (.bool false)] (by rfl) alloc_whole ?_ ?_
    · intro i hi hA aa wx hb hs hd
      match i, hi, hA with
      | 0, _, _ => exact .inl ⟨rfl, op_ldR rfl rfl (hs 2 rfl) ((HE.out.to hb).get 0 rfl)⟩
      | 1, _, _ => exact .inl ⟨rfl, wp_b HOf.out (op_call1 rfl rfl Try.call50 (ValidRat_got f _ _ (hd 0 rfl)))⟩
      | 2, _, _ => exact .inl ⟨rfl, ⟨_, op_not rfl (hd 1 rfl), rfl⟩⟩
      | 3, _, _ => exact .inl ⟨rfl, op_mv rfl (hd 2 rfl)⟩
      | 4, _, _ => exact .inl ⟨⟨rfl, hd 3 rfl⟩, op_ldR rfl rfl (hs 3 rfl) ((HE.out.to hb).get 1 rfl)⟩
      | 5, _, _ => exact .inl ⟨⟨rfl, hd 3 rfl⟩, wp_b HOg.out (op_call1 rfl rfl Try.call50 (ValidRat_got g _ _ (hd 4 rfl)))⟩
      | 6, _, _ => exact .inl ⟨⟨rfl, hd 3 rfl⟩, ⟨_, op_not rfl (hd 5 rfl), rfl⟩⟩
      | 7, _, _ => exact .inl ⟨rfl, ⟨_, op_pickF rfl (hd 3 rfl) (hd 6 rfl), rfl⟩⟩
      | i + 8, h, _ => omega
    · intro vs X1 hb hv hal hne
      replace HB := Hd.mk (bel_then HB.out hb)
      replace HE : Hd (Env X1 [⟨w.heap.size, 58, [rC f.n, rC f.d]⟩, ⟨w.heap.size + 1, 58, [rC g.n, rC g.d]⟩, ⟨w.heap.size + 1 + 1, 58, [zC 0, zC 0]⟩]) := ⟨HE.out.to hb⟩
      have e13 : vs 13 = .bool false := hv 7 (by decide) rfl
      simp only [putAll, List.foldl_cons, List.foldl_nil, Act.put, List.setIfInBounds_toArray, List.set_cons_succ, List.set_cons_zero, List.drop_succ_cons, List.drop_zero, e13]
      generalize vs 6 = s6
      generalize vs 7 = s7
      generalize vs 8 = s8
      generalize vs 9 = s9
      generalize vs 10 = s10
      generalize vs 11 = s11
      generalize vs 12 = s12
      clear hv hal hne hb
      go_upto_region 3 with fail
      refine wp_region_vs 8 [15, 16, 17, 18, 19, 20, 21, 22] [6, 7] [] 70 [.bool false, .slice none 0 0] [isL [rC f.n, rC f.d], isL [zC f.n.val, zC f.d.val], isL [rC g.n, rC g.d], isL [zC g.n.val, zC g.d.val], isL [zC (qn (f.n.val * g.d.val + g.n.val * f.d.val) (f.d.val * g.d.val)), zC (qd (f.n.val * g.d.val + g.n.val * f.d.val) (f.d.val * g.d.val))], isP (isL [zC (fitn (qn (f.n.val * g.d.val + g.n.val * f.d.val) (f.d.val * g.d.val)) (qd (f.n.val * g.d.val + g.n.val * f.d.val) (f.d.val * g.d.val))), zC (fitd (qn (f.n.val * g.d.val + g.n.val * f.d.val) (f.d.val * g.d.val)) (qd (f.n.val * g.d.val + g.n.val * f.d.val) (f.d.val * g.d.val)))]) (isV (.int .i64 (fitc (qn (f.n.val * g.d.val + g.n.val * f.d.val) (f.d.val * g.d.val)) (qd (f.n.val * g.d.val + g.n.val * f.d.val) (f.d.val * g.d.val))))), isL [zC (fitn (qn (f.n.val * g.d.val + g.n.val * f.d.val) (f.d.val * g.d.val)) (qd (f.n.val * g.d.val + g.n.val * f.d.val) (f.d.val * g.d.val))), zC (fitd (qn (f.n.val * g.d.val + g.n.val * f.d.val) (f.d.val * g.d.val)) (qd (f.n.val * g.d.val + g.n.val * f.d.val) (f.d.val * g.d.val)))], isV (.int .i64 (fitc (qn (f.n.val * g.d.val + g.n.val * f.d.val) (f.d.val * g.d.val)) (qd (f.n.val * g.d.val + g.n.val * f.d.val) (f.d.val * g.d.val))))] (by kernel_rfl) (by kernel_rfl) (by kernel_rfl) (by rfl) alloc_whole (fun d v c a w h => by cases d <;> exact h) ?_ ?_
      · intro i hi hA aa wx hb hs hd
        match i, hi, hA with
        | 0, _, _ => exact op_ldR rfl rfl (hs 2 rfl) ((HE.out.to hb).get 0 rfl)
        | 1, _, _ => exact op_call1 rfl rfl Try.call109 (OfRat_got f HOf.out _ _ (hd 0 rfl))
        | 2, _, _ => exact op_ldR rfl rfl (hs 3 rfl) ((HE.out.to hb).get 1 rfl)
        | 3, _, _ => exact op_call1 rfl rfl Try.call109 (OfRat_got g HOg.out _ _ (hd 2 rfl))
        | 4, _, _ => exact op_call2 rfl rfl Try.call111 (rPlusQ_got f.n.val f.d.val g.n.val g.d.val HB0.out HD0.out (by omega) (by omega) (by omega) (by omega) _ _ _ (hd 1 rfl) (hd 3 rfl))
        | 5, _, _ => exact op_call1 rfl rfl Try.call110 (rratio_got (qn (f.n.val * g.d.val + g.n.val * f.d.val) (f.d.val * g.d.val)) (qd (f.n.val * g.d.val + g.n.val * f.d.val) (f.d.val * g.d.val)) HL1.out HL2.out _ _ (hd 4 rfl))
        | 6, _, _ => exact op_fst rfl (hd 5 rfl)
        | 7, _, _ => exact op_snd rfl (hd 5 rfl)
        | i + 8, h, _ => omega
      · intro vs X2 hb hv hal hne
        replace HB := Hd.mk (bel_then HB.out hb)
        replace HE : Hd (Env X2 [⟨w.heap.size, 58, [rC f.n, rC f.d]⟩, ⟨w.heap.size + 1, 58, [rC g.n, rC g.d]⟩, ⟨w.heap.size + 1 + 1, 58, [zC 0, zC 0]⟩]) := ⟨HE.out.to hb⟩
        have t21 : (isL [zC (fitn (qn (f.n.val * g.d.val + g.n.val * f.d.val) (f.d.val * g.d.val)) (qd (f.n.val * g.d.val + g.n.val * f.d.val) (f.d.val * g.d.val))), zC (fitd (qn (f.n.val * g.d.val + g.n.val * f.d.val) (f.d.val * g.d.val)) (qd (f.n.val * g.d.val + g.n.val * f.d.val) (f.d.val * g.d.val)))]).p (vs 21) X2 := hv 6 (by decide) rfl
        obtain ⟨u21, y21, p21, q21, e21, c21, k21⟩ := isL_two.1 t21
        have e22 : vs 22 = .int .i64 (fitc (qn (f.n.val * g.d.val + g.n.val * f.d.val) (f.d.val * g.d.val)) (qd (f.n.val * g.d.val + g.n.val * f.d.val) (f.d.val * g.d.val))) := hv 7 (by decide) rfl
        simp only [putAll, List.foldl_cons, List.foldl_nil, Act.put, List.setIfInBounds_toArray, List.set_cons_succ, List.set_cons_zero, List.drop_succ_cons, List.drop_zero, e21, e22]
        generalize vs 15 = s15
        generalize vs 16 = s16
        generalize vs 17 = s17
        generalize vs 18 = s18
        generalize vs 19 = s19
        generalize vs 20 = s20
        refine wpList_st rfl rfl rfl rfl rfl (sto_R c21 k21 (HE.out.get 2 rfl)) ?_
        have HE' : Env (putAt (putAt X2 (w.heap.size + 1 + 1) 0 u21 y21) (w.heap.size + 1 + 1) 2 p21 q21) [⟨w.heap.size, 58, [rC f.n, rC f.d]⟩, ⟨w.heap.size + 1, 58, [rC g.n, rC g.d]⟩, ⟨w.heap.size + 1 + 1, 58, [zC (fitn (qn (f.n.val * g.d.val + g.n.val * f.d.val) (f.d.val * g.d.val)) (qd (f.n.val * g.d.val + g.n.val * f.d.val) (f.d.val * g.d.val))), zC (fitd (qn (f.n.val * g.d.val + g.n.val * f.d.val) (f.d.val * g.d.val)) (qd (f.n.val * g.d.val + g.n.val * f.d.val) (f.d.val * g.d.val)))]⟩] := HE.out.put4 2 rfl c21 k21
        have HB' := below_put4 (u := u21) (v := y21) (u' := p21) (v' := q21) HB.out (show w.heap.size ≤ w.heap.size + 1 + 1 from by omega)
        generalize putAt (putAt X2 (w.heap.size + 1 + 1) 0 u21 y21) (w.heap.size + 1 + 1) 2 p21 q21 = X3 at *
        replace HE := Hd.mk HE'
        replace HB := Hd.mk HB'
        clear HE' HB'
        clear hv hal hne hb
        go_wp2_with fail
        obtain ⟨r0a, r0b, r0c, r0d, k0a, k0b, k0c, k0d, h0a, h0b⟩ := (HE.out.get 2 rfl).cells2
        refine bodyPost_ret (v := .tuple #[.agg #[r0a, r0b, r0c, r0d], .int .i64 (fitc (qn (f.n.val * g.d.val + g.n.val * f.d.val) (f.d.val * g.d.val)) (qd (f.n.val * g.d.val + g.n.val * f.d.val) (f.d.val * g.d.val)))]) (by simp [results, Try.results59, go_sem, k0a, k0b, k0c, k0d]) rfl ?_
        exact ⟨_, rfl, HB.out, _, _, rfl, isL_two.2 ⟨_, _, _, _, rfl, h0a, h0b⟩, rfl⟩
  · have hno : (f.ok && g.ok) = false := by simpa using hok
    have e1 : rqn f g (f.n.val * g.d.val + g.n.val * f.d.val) (f.d.val * g.d.val) = 0 := if_neg hok
    have e2 : rqd f g (f.n.val * g.d.val + g.n.val * f.d.val) (f.d.val * g.d.val) = 0 := if_neg hok
    have e3 : rqe f g (f.n.val * g.d.val + g.n.val * f.d.val) (f.d.val * g.d.val) = 2 := if_neg hok
    rw [e1, e2, e3]
    clear e1 e2 e3 hok
    by_cases hf : f.ok = true
    · have hg : g.ok = false := by rw [hf] at hno; simpa using hno
      have HOf := Hd.mk hf
      have HOg := Hd.mk hg
      clear hf hg hno
      go_enter Try.func59, Try.ntmps59
      go_upto_region 1 with fail
      obtain ⟨W0, hW0⟩ : ∃ W : World, W = ((w.alloc (.cells #[u0, x0, y0, z0] 58)).alloc (.cells #[u1, x1, y1, z1] 58)).alloc (.cells #[Value.bool false, Value.slice none 0 0, Value.bool false, Value.slice none 0 0] 58) := ⟨_, rfl⟩
      rw [← hW0]
      obtain ⟨he, hb⟩ := env_three (cp2 p0 q0) (cp2 p1 q1) (cp2 (cp0 _) (cp0 _)) hW0
      have HE := Hd.mk he
      have HB := Hd.mk hb
      clear he hb hW0
      refine wp_region_vd 8 [6, 7, 8, 9, 10, 11, 12, 13] [2, 3, 6, 7] [] 70 [.bool false, .slice none 0 0] [isL [rC f.n, rC f.d], isV (.bool true), isV (.bool false), isV (.bool false), isL [rC g.n, rC g.d], isV (.bool false), isV (.bool true), isV (.bool true)] (by rfl) alloc_whole ?_ ?_
      · intro i hi hA aa wx hb hs hd
        match i, hi, hA with
        | 0, _, _ => exact .inl ⟨rfl, op_ldR rfl rfl (hs 2 rfl) ((HE.out.to hb).get 0 rfl)⟩
        | 1, _, _ => exact .inl ⟨rfl, wp_b HOf.out (op_call1 rfl rfl Try.call50 (ValidRat_got f _ _ (hd 0 rfl)))⟩
        | 2, _, _ => exact .inl ⟨rfl, ⟨_, op_not rfl (hd 1 rfl), rfl⟩⟩
        | 3, _, _ => exact .inl ⟨rfl, op_mv rfl (hd 2 rfl)⟩
        | 4, _, _ => exact .inl ⟨⟨rfl, hd 3 rfl⟩, op_ldR rfl rfl (hs 3 rfl) ((HE.out.to hb).get 1 rfl)⟩
        | 5, _, _ => exact .inl ⟨⟨rfl, hd 3 rfl⟩, wp_b HOg.out (op_call1 rfl rfl Try.call50 (ValidRat_got g _ _ (hd 4 rfl)))⟩
        | 6, _, _ => exact .inl ⟨⟨rfl, hd 3 rfl⟩, ⟨_, op_not rfl (hd 5 rfl), rfl⟩⟩
        | 7, _, _ => exact .inl ⟨rfl, ⟨_, op_pickF rfl (hd 3 rfl) (hd 6 rfl), rfl⟩⟩
        | i + 8, h, _ => omega
      · intro vs X1 hb hv hal hne
        replace HB := Hd.mk (bel_then HB.out hb)
        replace HE : Hd (Env X1 [⟨w.heap.size, 58, [rC f.n, rC f.d]⟩, ⟨w.heap.size + 1, 58, [rC g.n, rC g.d]⟩, ⟨w.heap.size + 1 + 1, 58, [zC 0, zC 0]⟩]) := ⟨HE.out.to hb⟩
        have e13 : vs 13 = .bool true := hv 7 (by decide) rfl
        simp only [putAll, List.foldl_cons, List.foldl_nil, Act.put, List.setIfInBounds_toArray, List.set_cons_succ, List.set_cons_zero, List.drop_succ_cons, List.drop_zero, e13]
        generalize vs 6 = s6
        generalize vs 7 = s7
        generalize vs 8 = s8
        generalize vs 9 = s9
        generalize vs 10 = s10
        generalize vs 11 = s11
        generalize vs 12 = s12
        clear hv hal hne hb
        go_upto_region 2 with fail
        refine wp_region_vd 1 [14] [0] [] 70 [.bool false, .slice none 0 0] [isL [zC 0, zC 0]] (by rfl) alloc_whole ?_ ?_
        · intro i hi hA aa wx hb hs hd
          match i, hi, hA with
          | 0, _, _ => exact .inl ⟨rfl, op_b0R rfl⟩
          | i + 1, h, _ => omega
        · intro vs X2 hb hv hal hne
          replace HB := Hd.mk (bel_then HB.out hb)
          replace HE : Hd (Env X2 [⟨w.heap.size, 58, [rC f.n, rC f.d]⟩, ⟨w.heap.size + 1, 58, [rC g.n, rC g.d]⟩, ⟨w.heap.size + 1 + 1, 58, [zC 0, zC 0]⟩]) := ⟨HE.out.to hb⟩
          have t14 : (isL [zC 0, zC 0]).p (vs 14) X2 := hv 0 (by decide) rfl
          obtain ⟨u14, y14, p14, q14, e14, c14, k14⟩ := isL_two.1 t14
          simp only [putAll, List.foldl_cons, List.foldl_nil, Act.put, List.setIfInBounds_toArray, List.set_cons_succ, List.set_cons_zero, List.drop_succ_cons, List.drop_zero, e14]
          refine wpList_st rfl rfl rfl rfl rfl (sto_R c14 k14 (HE.out.get 2 rfl)) ?_
          have HE' : Env (putAt (putAt X2 (w.heap.size + 1 + 1) 0 u14 y14) (w.heap.size + 1 + 1) 2 p14 q14) [⟨w.heap.size, 58, [rC f.n, rC f.d]⟩, ⟨w.heap.size + 1, 58, [rC g.n, rC g.d]⟩, ⟨w.heap.size + 1 + 1, 58, [zC 0, zC 0]⟩] := HE.out.put4 2 rfl c14 k14
          have HB' := below_put4 (u := u14) (v := y14) (u' := p14) (v' := q14) HB.out (show w.heap.size ≤ w.heap.size + 1 + 1 from by omega)
          generalize putAt (putAt X2 (w.heap.size + 1 + 1) 0 u14 y14) (w.heap.size + 1 + 1) 2 p14 q14 = X3 at *
          replace HE := Hd.mk HE'
          replace HB := Hd.mk HB'
          clear HE' HB'
          clear hv hal hne hb
          go_wp2_with fail
          obtain ⟨r0a, r0b, r0c, r0d, k0a, k0b, k0c, k0d, h0a, h0b⟩ := (HE.out.get 2 rfl).cells2
          refine bodyPost_ret (v := .tuple #[.agg #[r0a, r0b, r0c, r0d], .int .i64 2]) (by simp [results, Try.results59, go_sem, k0a, k0b, k0c, k0d]) rfl ?_
          exact ⟨_, rfl, HB.out, _, _, rfl, isL_two.2 ⟨_, _, _, _, rfl, h0a, h0b⟩, rfl⟩
    · have hf' : f.ok = false := by simpa using hf
      have HOf := Hd.mk hf'
      clear hf hf' hno
      go_enter Try.func59, Try.ntmps59
      go_upto_region 1 with fail
      obtain ⟨W0, hW0⟩ : ∃ W : World, W = ((w.alloc (.cells #[u0, x0, y0, z0] 58)).alloc (.cells #[u1, x1, y1, z1] 58)).alloc (.cells #[Value.bool false, Value.slice none 0 0, Value.bool false, Value.slice none 0 0] 58) := ⟨_, rfl⟩
      rw [← hW0]
      obtain ⟨he, hb⟩ := env_three (cp2 p0 q0) (cp2 p1 q1) (cp2 (cp0 _) (cp0 _)) hW0
      have HE := Hd.mk he
      have HB := Hd.mk hb
      clear he hb hW0
      refine wp_region_vd 8 [6, 7, 8, 9, 10, 11, 12, 13] [2, 3, 7] [] 70 [.bool false, .slice none 0 0] [isL [rC f.n, rC f.d], isV (.bool false), isV (.bool true), isV (.bool true), SP.any, SP.any, SP.any, isV (.bool true)] (by rfl) alloc_whole ?_ ?_
      · intro i hi hA aa wx hb hs hd
        match i, hi, hA with
        | 0, _, _ => exact .inl ⟨rfl, op_ldR rfl rfl (hs 2 rfl) ((HE.out.to hb).get 0 rfl)⟩
        | 1, _, _ => exact .inl ⟨rfl, wp_b HOf.out (op_call1 rfl rfl Try.call50 (ValidRat_got f _ _ (hd 0 rfl)))⟩
        | 2, _, _ => exact .inl ⟨rfl, ⟨_, op_not rfl (hd 1 rfl), rfl⟩⟩
        | 3, _, _ => exact .inl ⟨rfl, op_mv rfl (hd 2 rfl)⟩
        | 4, _, _ => exact .inr ⟨⟨rfl, hd 3 rfl⟩, trivial⟩
        | 5, _, _ => exact .inr ⟨⟨rfl, hd 3 rfl⟩, trivial⟩
        | 6, _, _ => exact .inr ⟨⟨rfl, hd 3 rfl⟩, trivial⟩
        | 7, _, _ => exact .inl ⟨rfl, ⟨_, op_pickT rfl (hd 3 rfl) rfl, rfl⟩⟩
        | i + 8, h, _ => omega
      · intro vs X1 hb hv hal hne
        replace HB := Hd.mk (bel_then HB.out hb)
        replace HE : Hd (Env X1 [⟨w.heap.size, 58, [rC f.n, rC f.d]⟩, ⟨w.heap.size + 1, 58, [rC g.n, rC g.d]⟩, ⟨w.heap.size + 1 + 1, 58, [zC 0, zC 0]⟩]) := ⟨HE.out.to hb⟩
        have e13 : vs 13 = .bool true := hv 7 (by decide) rfl
        simp only [putAll, List.foldl_cons, List.foldl_nil, Act.put, List.setIfInBounds_toArray, List.set_cons_succ, List.set_cons_zero, List.drop_succ_cons, List.drop_zero, e13]
        generalize vs 6 = s6
        generalize vs 7 = s7
        generalize vs 8 = s8
        generalize vs 9 = s9
        generalize vs 10 = s10
        generalize vs 11 = s11
        generalize vs 12 = s12
        clear hv hal hne hb
        go_upto_region 2 with fail
        refine wp_region_vd 1 [14] [0] [] 70 [.bool false, .slice none 0 0] [isL [zC 0, zC 0]] (by rfl) alloc_whole ?_ ?_
        · intro i hi hA aa wx hb hs hd
          match i, hi, hA with
          | 0, _, _ => exact .inl ⟨rfl, op_b0R rfl⟩
          | i + 1, h, _ => omega
        · intro vs X2 hb hv hal hne
          replace HB := Hd.mk (bel_then HB.out hb)
          replace HE : Hd (Env X2 [⟨w.heap.size, 58, [rC f.n, rC f.d]⟩, ⟨w.heap.size + 1, 58, [rC g.n, rC g.d]⟩, ⟨w.heap.size + 1 + 1, 58, [zC 0, zC 0]⟩]) := ⟨HE.out.to hb⟩
          have t14 : (isL [zC 0, zC 0]).p (vs 14) X2 := hv 0 (by decide) rfl
          obtain ⟨u14, y14, p14, q14, e14, c14, k14⟩ := isL_two.1 t14
          simp only [putAll, List.foldl_cons, List.foldl_nil, Act.put, List.setIfInBounds_toArray, List.set_cons_succ, List.set_cons_zero, List.drop_succ_cons, List.drop_zero, e14]
          refine wpList_st rfl rfl rfl rfl rfl (sto_R c14 k14 (HE.out.get 2 rfl)) ?_
          have HE' : Env (putAt (putAt X2 (w.heap.size + 1 + 1) 0 u14 y14) (w.heap.size + 1 + 1) 2 p14 q14) [⟨w.heap.size, 58, [rC f.n, rC f.d]⟩, ⟨w.heap.size + 1, 58, [rC g.n, rC g.d]⟩, ⟨w.heap.size + 1 + 1, 58, [zC 0, zC 0]⟩] := HE.out.put4 2 rfl c14 k14
          have HB' := below_put4 (u := u14) (v := y14) (u' := p14) (v' := q14) HB.out (show w.heap.size ≤ w.heap.size + 1 + 1 from by omega)
          generalize putAt (putAt X2 (w.heap.size + 1 + 1) 0 u14 y14) (w.heap.size + 1 + 1) 2 p14 q14 = X3 at *
          replace HE := Hd.mk HE'
          replace HB := Hd.mk HB'
          clear HE' HB'
          clear hv hal hne hb
          go_wp2_with fail
          obtain ⟨r0a, r0b, r0c, r0d, k0a, k0b, k0c, k0d, h0a, h0b⟩ := (HE.out.get 2 rfl).cells2
          refine bodyPost_ret (v := .tuple #[.agg #[r0a, r0b, r0c, r0d], .int .i64 2]) (by simp [results, Try.results59, go_sem, k0a, k0b, k0c, k0d]) rfl ?_
          exact ⟨_, rfl, HB.out, _, _, rfl, isL_two.2 ⟨_, _, _, _, rfl, h0a, h0b⟩, rfl⟩
set_option maxRecDepth 100000 in
set_option maxHeartbeats 1000000 in
theorem twosub_got (f g : RQ) (v0 v1 : Value) (w : World) (h0 : (isL [rC f.n, rC f.d]).p v0 w) (h1 : (isL [rC g.n, rC g.d]).p v1 w) :
    Calls Try.prog 99 #[v0, v1, .func (.func 106) #[] #[]] w (Got w (isP (isL [zC (rqn f g (f.n.val * g.d.val + -g.n.val * f.d.val) (f.d.val * g.d.val)), zC (rqd f g (f.n.val * g.d.val + -g.n.val * f.d.val) (f.d.val * g.d.val))]) (isV (.int .i64 (rqe f g (f.n.val * g.d.val + -g.n.val * f.d.val) (f.d.val * g.d.val))))).p) := by
  obtain ⟨u0, x0, y0, z0, rfl, p0, q0⟩ := isL_two.1 h0
  obtain ⟨u1, x1, y1, z1, rfl, p1, q1⟩ := isL_two.1 h1
  clear h0 h1
  by_cases hok : (f.ok && g.ok) = true
  · have hf : f.ok = true := by simp at hok; exact hok.1
    have hg : g.ok = true := by simp at hok; exact hok.2
    obtain ⟨l1, l2⟩ := ok_lens hf p0 q0
    obtain ⟨l3, l4⟩ := ok_lens hg p1 q1
    have HOf := Hd.mk hf
    have HOg := Hd.mk hg
    have HB0 : Hd (f.d.val ≠ 0) := ⟨by have := RQ.ok_pos hf; omega⟩
    have HD0 : Hd (g.d.val ≠ 0) := ⟨by have := RQ.ok_pos hg; omega⟩
    have HOK : Hd ([f, g].all RQ.ok = true) := ⟨by rw [all_rq2]; exact hok⟩
    have bD : ln (f.d.val * g.d.val).natAbs ≤ 2000 := Nat.le_trans (ln_zmul _ _) (by omega)
    have l3' : ln (-g.n.val).natAbs ≤ 256 := by rw [ln_zneg]; exact l3
    have b1 : ln (f.n.val * g.d.val).natAbs ≤ 1000 := Nat.le_trans (ln_zmul _ _) (by omega)
    have b2 : ln (-g.n.val * f.d.val).natAbs ≤ 1000 := Nat.le_trans (ln_zmul _ _) (by omega)
    have bN : ln (f.n.val * g.d.val + -g.n.val * f.d.val).natAbs ≤ 2000 := Nat.le_trans (ln_zadd _ _) (by omega)
    have HL1 : Hd (ln (qn (f.n.val * g.d.val + -g.n.val * f.d.val) (f.d.val * g.d.val)).natAbs ≤ 100000) := ⟨Nat.le_trans (ln_qn _ _) (by omega)⟩
    have HL2 : Hd (ln (qd (f.n.val * g.d.val + -g.n.val * f.d.val) (f.d.val * g.d.val)).natAbs ≤ 100000) := ⟨Nat.le_trans (ln_qd _ _) (by omega)⟩
    have e1 : rqn f g (f.n.val * g.d.val + -g.n.val * f.d.val) (f.d.val * g.d.val) = fitn (qn (f.n.val * g.d.val + -g.n.val * f.d.val) (f.d.val * g.d.val)) (qd (f.n.val * g.d.val + -g.n.val * f.d.val) (f.d.val * g.d.val)) := if_pos hok
    have e2 : rqd f g (f.n.val * g.d.val + -g.n.val * f.d.val) (f.d.val * g.d.val) = fitd (qn (f.n.val * g.d.val + -g.n.val * f.d.val) (f.d.val * g.d.val)) (qd (f.n.val * g.d.val + -g.n.val * f.d.val) (f.d.val * g.d.val)) := if_pos hok
    have e3 : rqe f g (f.n.val * g.d.val + -g.n.val * f.d.val) (f.d.val * g.d.val) = fitc (qn (f.n.val * g.d.val + -g.n.val * f.d.val) (f.d.val * g.d.val)) (qd (f.n.val * g.d.val + -g.n.val * f.d.val) (f.d.val * g.d.val)) := if_pos hok
    rw [e1, e2, e3]
    clear e1 e2 e3 hok hf hg
    go_enter Try.func99, Try.ntmps99
    go_upto_region 1 with fail
    obtain ⟨W0, hW0⟩ : ∃ W : World, W = ((w.alloc (.cells #[u0, x0, y0, z0] 58)).alloc (.cells #[u1, x1, y1, z1] 58)).alloc (.cells #[Value.bool false, Value.slice none 0 0, Value.bool false, Value.slice none 0 0] 58) := ⟨_, rfl⟩
    rw [← hW0]
    obtain ⟨he, hb⟩ := env_three (cp2 p0 q0) (cp2 p1 q1) (cp2 (cp0 _) (cp0 _)) hW0
    have HE := Hd.mk he
    have HB := Hd.mk hb
    clear he hb hW0
    refine wp_region_vd 5 [8, 9, 10, 11, 12] [4] [] 70 [.bool false, .slice none 0 0] [isL [rC f.n, rC f.d], isL [rC g.n, rC g.d], isRats [f, g], isV (.bool true), isV (.bool false)] (by rfl) alloc_whole ?_ ?_
    · intro i hi hA aa wx hb hs hd
      match i, hi, hA with
      | 0, _, _ => exact .inl ⟨rfl, op_ldR rfl rfl (hs 3 rfl) ((HE.out.to hb).get 0 rfl)⟩
      | 1, _, _ => exact .inl ⟨rfl, op_ldR rfl rfl (hs 4 rfl) ((HE.out.to hb).get 1 rfl)⟩
      | 2, _, _ => exact .inl ⟨rfl, op_bsR2 rfl rfl (hd 0 rfl) (hd 1 rfl)⟩
      | 3, _, _ => exact .inl ⟨rfl, wp_b HOK.out (op_call1 rfl rfl Try.call102 (validRats_got [f, g] (by show 2 ≤ 2; omega) _ _ (hd 2 rfl)))⟩
      | 4, _, _ => exact .inl ⟨rfl, ⟨_, op_not rfl (hd 3 rfl), rfl⟩⟩
      | i + 5, h, _ => omega
    · intro vs X1 hb hv hal hne
      replace HB := Hd.mk (bel_then HB.out hb)
      replace HE : Hd (Env X1 [⟨w.heap.size, 58, [rC f.n, rC f.d]⟩, ⟨w.heap.size + 1, 58, [rC g.n, rC g.d]⟩, ⟨w.heap.size + 1 + 1, 58, [zC 0, zC 0]⟩]) := ⟨HE.out.to hb⟩
      have e12 : vs 12 = .bool false := hv 4 (by decide) rfl
      simp only [putAll, List.foldl_cons, List.foldl_nil, Act.put, List.setIfInBounds_toArray, List.set_cons_succ, List.set_cons_zero, List.drop_succ_cons, List.drop_zero, e12]
      generalize vs 8 = s8
      generalize vs 9 = s9
      generalize vs 10 = s10
      generalize vs 11 = s11
      clear hv hal hne hb
      go_upto_region 3 with fail
      refine wp_region_vs 9 [14, 15, 16, 17, 18, 19, 20, 21, 22] [0, 7, 8] [] 70 [.bool false, .slice none 0 0] [isV (.func (.func 106) #[] #[]), isL [rC f.n, rC f.d], isL [zC f.n.val, zC f.d.val], isL [rC g.n, rC g.d], isL [zC g.n.val, zC g.d.val], isL [zC (qn (f.n.val * g.d.val + -g.n.val * f.d.val) (f.d.val * g.d.val)), zC (qd (f.n.val * g.d.val + -g.n.val * f.d.val) (f.d.val * g.d.val))], isP (isL [zC (fitn (qn (f.n.val * g.d.val + -g.n.val * f.d.val) (f.d.val * g.d.val)) (qd (f.n.val * g.d.val + -g.n.val * f.d.val) (f.d.val * g.d.val))), zC (fitd (qn (f.n.val * g.d.val + -g.n.val * f.d.val) (f.d.val * g.d.val)) (qd (f.n.val * g.d.val + -g.n.val * f.d.val) (f.d.val * g.d.val)))]) (isV (.int .i64 (fitc (qn (f.n.val * g.d.val + -g.n.val * f.d.val) (f.d.val * g.d.val)) (qd (f.n.val * g.d.val + -g.n.val * f.d.val) (f.d.val * g.d.val))))), isL [zC (fitn (qn (f.n.val * g.d.val + -g.n.val * f.d.val) (f.d.val * g.d.val)) (qd (f.n.val * g.d.val + -g.n.val * f.d.val) (f.d.val * g.d.val))), zC (fitd (qn (f.n.val * g.d.val + -g.n.val * f.d.val) (f.d.val * g.d.val)) (qd (f.n.val * g.d.val + -g.n.val * f.d.val) (f.d.val * g.d.val)))], isV (.int .i64 (fitc (qn (f.n.val * g.d.val + -g.n.val * f.d.val) (f.d.val * g.d.val)) (qd (f.n.val * g.d.val + -g.n.val * f.d.val) (f.d.val * g.d.val))))] (by kernel_rfl) (by kernel_rfl) (by kernel_rfl) (by rfl) alloc_whole (fun d v c a w h => by cases d <;> exact h) ?_ ?_
      · intro i hi hA aa wx hb hs hd
        match i, hi, hA with
        | 0, _, _ => exact op_mv rfl (hs 2 rfl)
        | 1, _, _ => exact op_ldR rfl rfl (hs 3 rfl) ((HE.out.to hb).get 0 rfl)
        | 2, _, _ => exact op_call1 rfl rfl Try.call103 (ratOf_got f HOf.out _ _ (hd 1 rfl))
        | 3, _, _ => exact op_ldR rfl rfl (hs 4 rfl) ((HE.out.to hb).get 1 rfl)
        | 4, _, _ => exact op_call1 rfl rfl Try.call103 (ratOf_got g HOg.out _ _ (hd 3 rfl))
        | 5, _, _ => exact op_callv2 (hd 0 rfl) rfl rfl Try.call106 (qsub_got f.n.val f.d.val g.n.val g.d.val _ _ _ (hd 2 rfl) (hd 4 rfl) HB0.out HD0.out (by omega) (by omega) (by omega) (by omega))
        | 6, _, _ => exact op_call1 rfl rfl Try.call131 (qfits_got (qn (f.n.val * g.d.val + -g.n.val * f.d.val) (f.d.val * g.d.val)) (qd (f.n.val * g.d.val + -g.n.val * f.d.val) (f.d.val * g.d.val)) HL1.out HL2.out _ _ (hd 5 rfl))
        | 7, _, _ => exact op_fst rfl (hd 6 rfl)
        | 8, _, _ => exact op_snd rfl (hd 6 rfl)
        | i + 9, h, _ => omega
      · intro vs X2 hb hv hal hne
        replace HB := Hd.mk (bel_then HB.out hb)
        replace HE : Hd (Env X2 [⟨w.heap.size, 58, [rC f.n, rC f.d]⟩, ⟨w.heap.size + 1, 58, [rC g.n, rC g.d]⟩, ⟨w.heap.size + 1 + 1, 58, [zC 0, zC 0]⟩]) := ⟨HE.out.to hb⟩
        have t21 : (isL [zC (fitn (qn (f.n.val * g.d.val + -g.n.val * f.d.val) (f.d.val * g.d.val)) (qd (f.n.val * g.d.val + -g.n.val * f.d.val) (f.d.val * g.d.val))), zC (fitd (qn (f.n.val * g.d.val + -g.n.val * f.d.val) (f.d.val * g.d.val)) (qd (f.n.val * g.d.val + -g.n.val * f.d.val) (f.d.val * g.d.val)))]).p (vs 21) X2 := hv 7 (by decide) rfl
        obtain ⟨u21, y21, p21, q21, e21, c21, k21⟩ := isL_two.1 t21
        have e22 : vs 22 = .int .i64 (fitc (qn (f.n.val * g.d.val + -g.n.val * f.d.val) (f.d.val * g.d.val)) (qd (f.n.val * g.d.val + -g.n.val * f.d.val) (f.d.val * g.d.val))) := hv 8 (by decide) rfl
        simp only [putAll, List.foldl_cons, List.foldl_nil, Act.put, List.setIfInBounds_toArray, List.set_cons_succ, List.set_cons_zero, List.drop_succ_cons, List.drop_zero, e21, e22]
        generalize vs 14 = s14
        generalize vs 15 = s15
        generalize vs 16 = s16
        generalize vs 17 = s17
        generalize vs 18 = s18
        generalize vs 19 = s19
        generalize vs 20 = s20
        refine wpList_st rfl rfl rfl rfl rfl (sto_R c21 k21 (HE.out.get 2 rfl)) ?_
        have HE' : Env (putAt (putAt X2 (w.heap.size + 1 + 1) 0 u21 y21) (w.heap.size + 1 + 1) 2 p21 q21) [⟨w.heap.size, 58, [rC f.n, rC f.d]⟩, ⟨w.heap.size + 1, 58, [rC g.n, rC g.d]⟩, ⟨w.heap.size + 1 + 1, 58, [zC (fitn (qn (f.n.val * g.d.val + -g.n.val * f.d.val) (f.d.val * g.d.val)) (qd (f.n.val * g.d.val + -g.n.val * f.d.val) (f.d.val * g.d.val))), zC (fitd (qn (f.n.val * g.d.val + -g.n.val * f.d.val) (f.d.val * g.d.val)) (qd (f.n.val * g.d.val + -g.n.val * f.d.val) (f.d.val * g.d.val)))]⟩] := HE.out.put4 2 rfl c21 k21
        have HB' := below_put4 (u := u21) (v := y21) (u' := p21) (v' := q21) HB.out (show w.heap.size ≤ w.heap.size + 1 + 1 from by omega)
        generalize putAt (putAt X2 (w.heap.size + 1 + 1) 0 u21 y21) (w.heap.size + 1 + 1) 2 p21 q21 = X3 at *
        replace HE := Hd.mk HE'
        replace HB := Hd.mk HB'
        clear HE' HB'
        clear hv hal hne hb
        go_wp2_with fail
        obtain ⟨r0a, r0b, r0c, r0d, k0a, k0b, k0c, k0d, h0a, h0b⟩ := (HE.out.get 2 rfl).cells2
        refine bodyPost_ret (v := .tuple #[.agg #[r0a, r0b, r0c, r0d], .int .i64 (fitc (qn (f.n.val * g.d.val + -g.n.val * f.d.val) (f.d.val * g.d.val)) (qd (f.n.val * g.d.val + -g.n.val * f.d.val) (f.d.val * g.d.val)))]) (by simp [results, Try.results99, go_sem, k0a, k0b, k0c, k0d]) rfl ?_
        exact ⟨_, rfl, HB.out, _, _, rfl, isL_two.2 ⟨_, _, _, _, rfl, h0a, h0b⟩, rfl⟩
  · have hno : (f.ok && g.ok) = false := by simpa using hok
    have HOK : Hd ([f, g].all RQ.ok = false) := ⟨by rw [all_rq2]; exact hno⟩
    have e1 : rqn f g (f.n.val * g.d.val + -g.n.val * f.d.val) (f.d.val * g.d.val) = 0 := if_neg hok
    have e2 : rqd f g (f.n.val * g.d.val + -g.n.val * f.d.val) (f.d.val * g.d.val) = 0 := if_neg hok
    have e3 : rqe f g (f.n.val * g.d.val + -g.n.val * f.d.val) (f.d.val * g.d.val) = 2 := if_neg hok
    rw [e1, e2, e3]
    clear e1 e2 e3 hok hno
    go_enter Try.func99, Try.ntmps99
    go_upto_region 1 with fail
    obtain ⟨W0, hW0⟩ : ∃ W : World, W = ((w.alloc (.cells #[u0, x0, y0, z0] 58)).alloc (.cells #[u1, x1, y1, z1] 58)).alloc (.cells #[Value.bool false, Value.slice none 0 0, Value.bool false, Value.slice none 0 0] 58) := ⟨_, rfl⟩
    rw [← hW0]
    obtain ⟨he, hb⟩ := env_three (cp2 p0 q0) (cp2 p1 q1) (cp2 (cp0 _) (cp0 _)) hW0
    have HE := Hd.mk he
    have HB := Hd.mk hb
    clear he hb hW0
    refine wp_region_vd 5 [8, 9, 10, 11, 12] [4] [] 70 [.bool false, .slice none 0 0] [isL [rC f.n, rC f.d], isL [rC g.n, rC g.d], isRats [f, g], isV (.bool false), isV (.bool true)] (by rfl) alloc_whole ?_ ?_
    · intro i hi hA aa wx hb hs hd
      match i, hi, hA with
      | 0, _, _ => exact .inl ⟨rfl, op_ldR rfl rfl (hs 3 rfl) ((HE.out.to hb).get 0 rfl)⟩
      | 1, _, _ => exact .inl ⟨rfl, op_ldR rfl rfl (hs 4 rfl) ((HE.out.to hb).get 1 rfl)⟩
      | 2, _, _ => exact .inl ⟨rfl, op_bsR2 rfl rfl (hd 0 rfl) (hd 1 rfl)⟩
      | 3, _, _ => exact .inl ⟨rfl, wp_b HOK.out (op_call1 rfl rfl Try.call102 (validRats_got [f, g] (by show 2 ≤ 2; omega) _ _ (hd 2 rfl)))⟩
      | 4, _, _ => exact .inl ⟨rfl, ⟨_, op_not rfl (hd 3 rfl), rfl⟩⟩
      | i + 5, h, _ => omega
    · intro vs X1 hb hv hal hne
      replace HB := Hd.mk (bel_then HB.out hb)
      replace HE : Hd (Env X1 [⟨w.heap.size, 58, [rC f.n, rC f.d]⟩, ⟨w.heap.size + 1, 58, [rC g.n, rC g.d]⟩, ⟨w.heap.size + 1 + 1, 58, [zC 0, zC 0]⟩]) := ⟨HE.out.to hb⟩
      have e12 : vs 12 = .bool true := hv 4 (by decide) rfl
      simp only [putAll, List.foldl_cons, List.foldl_nil, Act.put, List.setIfInBounds_toArray, List.set_cons_succ, List.set_cons_zero, List.drop_succ_cons, List.drop_zero, e12]
      generalize vs 8 = s8
      generalize vs 9 = s9
      generalize vs 10 = s10
      generalize vs 11 = s11
      clear hv hal hne hb
      go_upto_region 2 with fail
      refine wp_region_vd 1 [13] [0] [] 70 [.bool false, .slice none 0 0] [isL [zC 0, zC 0]] (by rfl) alloc_whole ?_ ?_
      · intro i hi hA aa wx hb hs hd
        match i, hi, hA with
        | 0, _, _ => exact .inl ⟨rfl, op_b0R rfl⟩
        | i + 1, h, _ => omega
      · intro vs X2 hb hv hal hne
        replace HB := Hd.mk (bel_then HB.out hb)
        replace HE : Hd (Env X2 [⟨w.heap.size, 58, [rC f.n, rC f.d]⟩, ⟨w.heap.size + 1, 58, [rC g.n, rC g.d]⟩, ⟨w.heap.size + 1 + 1, 58, [zC 0, zC 0]⟩]) := ⟨HE.out.to hb⟩
        have t13 : (isL [zC 0, zC 0]).p (vs 13) X2 := hv 0 (by decide) rfl
        obtain ⟨u13, y13, p13, q13, e13, c13, k13⟩ := isL_two.1 t13
        simp only [putAll, List.foldl_cons, List.foldl_nil, Act.put, List.setIfInBounds_toArray, List.set_cons_succ, List.set_cons_zero, List.drop_succ_cons, List.drop_zero, e13]
        refine wpList_st rfl rfl rfl rfl rfl (sto_R c13 k13 (HE.out.get 2 rfl)) ?_
        have HE' : Env (putAt (putAt X2 (w.heap.size + 1 + 1) 0 u13 y13) (w.heap.size + 1 + 1) 2 p13 q13) [⟨w.heap.size, 58, [rC f.n, rC f.d]⟩, ⟨w.heap.size + 1, 58, [rC g.n, rC g.d]⟩, ⟨w.heap.size + 1 + 1, 58, [zC 0, zC 0]⟩] := HE.out.put4 2 rfl c13 k13
        have HB' := below_put4 (u := u13) (v := y13) (u' := p13) (v' := q13) HB.out (show w.heap.size ≤ w.heap.size + 1 + 1 from by omega)
        generalize putAt (putAt X2 (w.heap.size + 1 + 1) 0 u13 y13) (w.heap.size + 1 + 1) 2 p13 q13 = X3 at *
        replace HE := Hd.mk HE'
        replace HB := Hd.mk HB'
        clear HE' HB'
        clear hv hal hne hb
        go_wp2_with fail
        obtain ⟨r0a, r0b, r0c, r0d, k0a, k0b, k0c, k0d, h0a, h0b⟩ := (HE.out.get 2 rfl).cells2
        refine bodyPost_ret (v := .tuple #[.agg #[r0a, r0b, r0c, r0d], .int .i64 2]) (by simp [results, Try.results99, go_sem, k0a, k0b, k0c, k0d]) rfl ?_
        exact ⟨_, rfl, HB.out, _, _, rfl, isL_two.2 ⟨_, _, _, _, rfl, h0a, h0b⟩, rfl⟩
set_option maxRecDepth 100000 in
set_option maxHeartbeats 1000000 in
theorem RatSub_got (f g : RQ) (v0 v1 : Value) (w : World) (h0 : (isL [rC f.n, rC f.d]).p v0 w) (h1 : (isL [rC g.n, rC g.d]).p v1 w) :
    Calls Try.prog 55 #[v0, v1] w (Got w (isP (isL [zC (rqn f g (f.n.val * g.d.val + -g.n.val * f.d.val) (f.d.val * g.d.val)), zC (rqd f g (f.n.val * g.d.val + -g.n.val * f.d.val) (f.d.val * g.d.val))]) (isV (.int .i64 (rqe f g (f.n.val * g.d.val + -g.n.val * f.d.val) (f.d.val * g.d.val))))).p) := by
  obtain ⟨u0, x0, y0, z0, rfl, p0, q0⟩ := isL_two.1 h0
  obtain ⟨u1, x1, y1, z1, rfl, p1, q1⟩ := isL_two.1 h1
  clear h0 h1
  go_enter Try.func55, Try.ntmps55
  go_upto_region 1 with fail
  obtain ⟨W0, hW0⟩ : ∃ W : World, W = ((w.alloc (.cells #[u0, x0, y0, z0] 58)).alloc (.cells #[u1, x1, y1, z1] 58)).alloc (.cells #[Value.bool false, Value.slice none 0 0, Value.bool false, Value.slice none 0 0] 58) := ⟨_, rfl⟩
  rw [← hW0]
  obtain ⟨he, hb⟩ := env_three (cp2 p0 q0) (cp2 p1 q1) (cp2 (cp0 _) (cp0 _)) hW0
  have HE := Hd.mk he
  have HB := Hd.mk hb
  clear he hb hW0
  refine wp_region_vd 5 [6, 7, 8, 9, 10] [3, 4] [] 70 [.bool false, .slice none 0 0] [isL [rC f.n, rC f.d], isL [rC g.n, rC g.d], isP (isL [zC (rqn f g (f.n.val * g.d.val + -g.n.val * f.d.val) (f.d.val * g.d.val)), zC (rqd f g (f.n.val * g.d.val + -g.n.val * f.d.val) (f.d.val * g.d.val))]) (isV (.int .i64 (rqe f g (f.n.val * g.d.val + -g.n.val * f.d.val) (f.d.val * g.d.val)))), isL [zC (rqn f g (f.n.val * g.d.val + -g.n.val * f.d.val) (f.d.val * g.d.val)), zC (rqd f g (f.n.val * g.d.val + -g.n.val * f.d.val) (f.d.val * g.d.val))], isV (.int .i64 (rqe f g (f.n.val * g.d.val + -g.n.val * f.d.val) (f.d.val * g.d.val)))] (by rfl) alloc_whole ?_ ?_
  · intro i hi hA aa wx hb hs hd
    match i, hi, hA with
    | 0, _, _ => exact .inl ⟨rfl, op_ldR rfl rfl (hs 2 rfl) ((HE.out.to hb).get 0 rfl)⟩
    | 1, _, _ => exact .inl ⟨rfl, op_ldR rfl rfl (hs 3 rfl) ((HE.out.to hb).get 1 rfl)⟩
    | 2, _, _ => exact .inl ⟨rfl, op_call3 rfl rfl Try.call99 (twosub_got f g _ _ _ (hd 0 rfl) (hd 1 rfl))⟩
    | 3, _, _ => exact .inl ⟨rfl, op_fst rfl (hd 2 rfl)⟩
    | 4, _, _ => exact .inl ⟨rfl, op_snd rfl (hd 2 rfl)⟩
    | i + 5, h, _ => omega
  · intro vs X1 hb hv hal hne
    replace HB := Hd.mk (bel_then HB.out hb)
    replace HE : Hd (Env X1 [⟨w.heap.size, 58, [rC f.n, rC f.d]⟩, ⟨w.heap.size + 1, 58, [rC g.n, rC g.d]⟩, ⟨w.heap.size + 1 + 1, 58, [zC 0, zC 0]⟩]) := ⟨HE.out.to hb⟩
    have t9 : (isL [zC (rqn f g (f.n.val * g.d.val + -g.n.val * f.d.val) (f.d.val * g.d.val)), zC (rqd f g (f.n.val * g.d.val + -g.n.val * f.d.val) (f.d.val * g.d.val))]).p (vs 9) X1 := hv 3 (by decide) rfl
    obtain ⟨u9, y9, p9, q9, e9, c9, k9⟩ := isL_two.1 t9
    have e10 : vs 10 = .int .i64 (rqe f g (f.n.val * g.d.val + -g.n.val * f.d.val) (f.d.val * g.d.val)) := hv 4 (by decide) rfl
    simp only [putAll, List.foldl_cons, List.foldl_nil, Act.put, List.setIfInBounds_toArray, List.set_cons_succ, List.set_cons_zero, List.drop_succ_cons, List.drop_zero, e9, e10]
    generalize vs 6 = s6
    generalize vs 7 = s7
    generalize vs 8 = s8
    refine wpList_st rfl rfl rfl rfl rfl (sto_R c9 k9 (HE.out.get 2 rfl)) ?_
    have HE' : Env (putAt (putAt X1 (w.heap.size + 1 + 1) 0 u9 y9) (w.heap.size + 1 + 1) 2 p9 q9) [⟨w.heap.size, 58, [rC f.n, rC f.d]⟩, ⟨w.heap.size + 1, 58, [rC g.n, rC g.d]⟩, ⟨w.heap.size + 1 + 1, 58, [zC (rqn f g (f.n.val * g.d.val + -g.n.val * f.d.val) (f.d.val * g.d.val)), zC (rqd f g (f.n.val * g.d.val + -g.n.val * f.d.val) (f.d.val * g.d.val))]⟩] := HE.out.put4 2 rfl c9 k9
    have HB' := below_put4 (u := u9) (v := y9) (u' := p9) (v' := q9) HB.out (show w.heap.size ≤ w.heap.size + 1 + 1 from by omega)
    generalize putAt (putAt X1 (w.heap.size + 1 + 1) 0 u9 y9) (w.heap.size + 1 + 1) 2 p9 q9 = X2 at *
    replace HE := Hd.mk HE'
    replace HB := Hd.mk HB'
    clear HE' HB'
    clear hv hal hne hb
    go_wp2_with fail
    obtain ⟨r0a, r0b, r0c, r0d, k0a, k0b, k0c, k0d, h0a, h0b⟩ := (HE.out.get 2 rfl).cells2
    refine bodyPost_ret (v := .tuple #[.agg #[r0a, r0b, r0c, r0d], .int .i64 (rqe f g (f.n.val * g.d.val + -g.n.val * f.d.val) (f.d.val * g.d.val))]) (by simp [results, Try.results55, go_sem, k0a, k0b, k0c, k0d]) rfl ?_
    exact ⟨_, rfl, HB.out, _, _, rfl, isL_two.2 ⟨_, _, _, _, rfl, h0a, h0b⟩, rfl⟩
set_option maxRecDepth 100000 in
set_option maxHeartbeats 1000000 in
theorem rSub_got (f g : RQ) (v0 v1 : Value) (w : World) (h0 : (isL [rC f.n, rC f.d]).p v0 w) (h1 : (isL [rC g.n, rC g.d]).p v1 w) :
    Calls Try.prog 60 #[v0, v1] w (Got w (isP (isL [zC (rqn f g (f.n.val * g.d.val + -g.n.val * f.d.val) (f.d.val * g.d.val)), zC (rqd f g (f.n.val * g.d.val + -g.n.val * f.d.val) (f.d.val * g.d.val))]) (isV (.int .i64 (rqe f g (f.n.val * g.d.val + -g.n.val * f.d.val) (f.d.val * g.d.val))))).p) := by
  obtain ⟨u0, x0, y0, z0, rfl, p0, q0⟩ := isL_two.1 h0
  obtain ⟨u1, x1, y1, z1, rfl, p1, q1⟩ := isL_two.1 h1
  clear h0 h1
  by_cases hok : (f.ok && g.ok) = true
  · have hf : f.ok = true := by simp at hok; exact hok.1
    have hg : g.ok = true := by simp at hok; exact hok.2
    obtain ⟨l1, l2⟩ := ok_lens hf p0 q0
    obtain ⟨l3, l4⟩ := ok_lens hg p1 q1
    have HOf := Hd.mk hf
    have HOg := Hd.mk hg
    have HB0 : Hd (f.d.val ≠ 0) := ⟨by have := RQ.ok_pos hf; omega⟩
    have HD0 : Hd (g.d.val ≠ 0) := ⟨by have := RQ.ok_pos hg; omega⟩
    have HOK : Hd ([f, g].all RQ.ok = true) := ⟨by rw [all_rq2]; exact hok⟩
    have bD : ln (f.d.val * g.d.val).natAbs ≤ 2000 := Nat.le_trans (ln_zmul _ _) (by omega)
    have l3' : ln (-g.n.val).natAbs ≤ 256 := by rw [ln_zneg]; exact l3
    have b1 : ln (f.n.val * g.d.val).natAbs ≤ 1000 := Nat.le_trans (ln_zmul _ _) (by omega)
    have b2 : ln (-g.n.val * f.d.val).natAbs ≤ 1000 := Nat.le_trans (ln_zmul _ _) (by omega)
    have bN : ln (f.n.val * g.d.val + -g.n.val * f.d.val).natAbs ≤ 2000 := Nat.le_trans (ln_zadd _ _) (by omega)
    have HL1 : Hd (ln (qn (f.n.val * g.d.val + -g.n.val * f.d.val) (f.d.val * g.d.val)).natAbs ≤ 100000) := ⟨Nat.le_trans (ln_qn _ _) (by omega)⟩
    have HL2 : Hd (ln (qd (f.n.val * g.d.val + -g.n.val * f.d.val) (f.d.val * g.d.val)).natAbs ≤ 100000) := ⟨Nat.le_trans (ln_qd _ _) (by omega)⟩
    have e1 : rqn f g (f.n.val * g.d.val + -g.n.val * f.d.val) (f.d.val * g.d.val) = fitn (qn (f.n.val * g.d.val + -g.n.val * f.d.val) (f.d.val * g.d.val)) (qd (f.n.val * g.d.val + -g.n.val * f.d.val) (f.d.val * g.d.val)) := if_pos hok
    have e2 : rqd f g (f.n.val * g.d.val + -g.n.val * f.d.val) (f.d.val * g.d.val) = fitd (qn (f.n.val * g.d.val + -g.n.val * f.d.val) (f.d.val * g.d.val)) (qd (f.n.val * g.d.val + -g.n.val * f.d.val) (f.d.val * g.d.val)) := if_pos hok
    have e3 : rqe f g (f.n.val * g.d.val + -g.n.val * f.d.val) (f.d.val * g.d.val) = fitc (qn (f.n.val * g.d.val + -g.n.val * f.d.val) (f.d.val * g.d.val)) (qd (f.n.val * g.d.val + -g.n.val * f.d.val) (f.d.val * g.d.val)) := if_pos hok
    rw [e1, e2, e3]
    clear e1 e2 e3 hok hf hg
    go_enter Try.func60, Try.ntmps60
    go_upto_region 1 with fail
    obtain ⟨W0, hW0⟩ : ∃ W : World, W = ((w.alloc (.cells #[u0, x0, y0, z0] 58)).alloc (.cells #[u1, x1, y1, z1] 58)).alloc (.cells #[Value.bool false, Value.slice none 0 0, Value.bool false, Value.slice none 0 0] 58) := ⟨_, rfl⟩
    rw [← hW0]
    obtain ⟨he, hb⟩ := env_three (cp2 p0 q0) (cp2 p1 q1) (cp2 (cp0 _) (cp0 _)) hW0
    have HE := Hd.mk he
    have HB := Hd.mk hb
    clear he hb hW0
    refine wp_region_vd 8 [6, 7, 8, 9, 10, 11, 12, 13] [2, 3, 6, 7] [] 70 [.bool false, .slice none 0 0] [isL [rC f.n, rC f.d], isV (.bool true), isV (.bool false), isV (.bool false), isL [rC g.n, rC g.d], isV (.bool true), isV (.bool false), isV (.bool false)] (by rfl) alloc_whole ?_ ?_
    · intro i hi hA aa wx hb hs hd
      match i, hi, hA with
      | 0, _, _ => exact .inl ⟨rfl, op_ldR rfl rfl (hs 2 rfl) ((HE.out.to hb).get 0 rfl)⟩
      | 1, _, _ => exact .inl ⟨rfl, wp_b HOf.out (op_call1 rfl rfl Try.call50 (ValidRat_got f _ _ (hd 0 rfl)))⟩
      | 2, _, _ => exact .inl ⟨rfl, ⟨_, op_not rfl (hd 1 rfl), rfl⟩⟩
      | 3, _, _ => exact .inl ⟨rfl, op_mv rfl (hd 2 rfl)⟩
      | 4, _, _ => exact .inl ⟨⟨rfl, hd 3 rfl⟩, op_ldR rfl rfl (hs 3 rfl) ((HE.out.to hb).get 1 rfl)⟩
      | 5, _, _ => exact .inl ⟨⟨rfl, hd 3 rfl⟩, wp_b HOg.out (op_call1 rfl rfl Try.call50 (ValidRat_got g _ _ (hd 4 rfl)))⟩
      | 6, _, _ => exact .inl ⟨⟨rfl, hd 3 rfl⟩, ⟨_, op_not rfl (hd 5 rfl), rfl⟩⟩
      | 7, _, _ => exact .inl ⟨rfl, ⟨_, op_pickF rfl (hd 3 rfl) (hd 6 rfl), rfl⟩⟩
      | i + 8, h, _ => omega
    · intro vs X1 hb hv hal hne
      replace HB := Hd.mk (bel_then HB.out hb)
      replace HE : Hd (Env X1 [⟨w.heap.size, 58, [rC f.n, rC f.d]⟩, ⟨w.heap.size + 1, 58, [rC g.n, rC g.d]⟩, ⟨w.heap.size + 1 + 1, 58, [zC 0, zC 0]⟩]) := ⟨HE.out.to hb⟩
      have e13 : vs 13 = .bool false := hv 7 (by decide) rfl
      simp only [putAll, List.foldl_cons, List.foldl_nil, Act.put, List.setIfInBounds_toArray, List.set_cons_succ, List.set_cons_zero, List.drop_succ_cons, List.drop_zero, e13]
      generalize vs 6 = s6
      generalize vs 7 = s7
      generalize vs 8 = s8
      generalize vs 9 = s9
      generalize vs 10 = s10
      generalize vs 11 = s11
      generalize vs 12 = s12
      clear hv hal hne hb
      go_upto_region 3 with fail
      refine wp_region_vs 8 [15, 16, 17, 18, 19, 20, 21, 22] [6, 7] [] 70 [.bool false, .slice none 0 0] [isL [rC f.n, rC f.d], isL [zC f.n.val, zC f.d.val], isL [rC g.n, rC g.d], isL [zC g.n.val, zC g.d.val], isL [zC (qn (f.n.val * g.d.val + -g.n.val * f.d.val) (f.d.val * g.d.val)), zC (qd (f.n.val * g.d.val + -g.n.val * f.d.val) (f.d.val * g.d.val))], isP (isL [zC (fitn (qn (f.n.val * g.d.val + -g.n.val * f.d.val) (f.d.val * g.d.val)) (qd (f.n.val * g.d.val + -g.n.val * f.d.val) (f.d.val * g.d.val))), zC (fitd (qn (f.n.val * g.d.val + -g.n.val * f.d.val) (f.d.val * g.d.val)) (qd (f.n.val * g.d.val + -g.n.val * f.d.val) (f.d.val * g.d.val)))]) (isV (.int .i64 (fitc (qn (f.n.val * g.d.val + -g.n.val * f.d.val) (f.d.val * g.d.val)) (qd (f.n.val * g.d.val + -g.n.val * f.d.val) (f.d.val * g.d.val))))), isL [zC (fitn (qn (f.n.val * g.d.val + -g.n.val * f.d.val) (f.d.val * g.d.val)) (qd (f.n.val * g.d.val + -g.n.val * f.d.val) (f.d.val * g.d.val))), zC (fitd (qn (f.n.val * g.d.val + -g.n.val * f.d.val) (f.d.val * g.d.val)) (qd (f.n.val * g.d.val + -g.n.val * f.d.val) (f.d.val * g.d.val)))], isV (.int .i64 (fitc (qn (f.n.val * g.d.val + -g.n.val * f.d.val) (f.d.val * g.d.val)) (qd (f.n.val * g.d.val + -g.n.val * f.d.val) (f.d.val * g.d.val))))] (by kernel_rfl) (by kernel_rfl) (by kernel_rfl) (by rfl) alloc_whole (fun d v c a w h => by cases d <;> exact h) ?_ ?_
      · intro i hi hA aa wx hb hs hd
        match i, hi, hA with
        | 0, _, _ => exact op_ldR rfl rfl (hs 2 rfl) ((HE.out.to hb).get 0 rfl)
        | 1, _, _ => exact op_call1 rfl rfl Try.call109 (OfRat_got f HOf.out _ _ (hd 0 rfl))
        | 2, _, _ => exact op_ldR rfl rfl (hs 3 rfl) ((HE.out.to hb).get 1 rfl)
        | 3, _, _ => exact op_call1 rfl rfl Try.call109 (OfRat_got g HOg.out _ _ (hd 2 rfl))
        | 4, _, _ => exact op_call2 rfl rfl Try.call112 (rLessQ_got f.n.val f.d.val g.n.val g.d.val HB0.out HD0.out (by omega) (by omega) (by omega) (by omega) _ _ _ (hd 1 rfl) (hd 3 rfl))
        | 5, _, _ => exact op_call1 rfl rfl Try.call110 (rratio_got (qn (f.n.val * g.d.val + -g.n.val * f.d.val) (f.d.val * g.d.val)) (qd (f.n.val * g.d.val + -g.n.val * f.d.val) (f.d.val * g.d.val)) HL1.out HL2.out _ _ (hd 4 rfl))
        | 6, _, _ => exact op_fst rfl (hd 5 rfl)
        | 7, _, _ => exact op_snd rfl (hd 5 rfl)
        | i + 8, h, _ => omega
      · intro vs X2 hb hv hal hne
        replace HB := Hd.mk (bel_then HB.out hb)
        replace HE : Hd (Env X2 [⟨w.heap.size, 58, [rC f.n, rC f.d]⟩, ⟨w.heap.size + 1, 58, [rC g.n, rC g.d]⟩, ⟨w.heap.size + 1 + 1, 58, [zC 0, zC 0]⟩]) := ⟨HE.out.to hb⟩
        have t21 : (isL [zC (fitn (qn (f.n.val * g.d.val + -g.n.val * f.d.val) (f.d.val * g.d.val)) (qd (f.n.val * g.d.val + -g.n.val * f.d.val) (f.d.val * g.d.val))), zC (fitd (qn (f.n.val * g.d.val + -g.n.val * f.d.val) (f.d.val * g.d.val)) (qd (f.n.val * g.d.val + -g.n.val * f.d.val) (f.d.val * g.d.val)))]).p (vs 21) X2 := hv 6 (by decide) rfl
        obtain ⟨u21, y21, p21, q21, e21, c21, k21⟩ := isL_two.1 t21
        have e22 : vs 22 = .int .i64 (fitc (qn (f.n.val * g.d.val + -g.n.val * f.d.val) (f.d.val * g.d.val)) (qd (f.n.val * g.d.val + -g.n.val * f.d.val) (f.d.val * g.d.val))) := hv 7 (by decide) rfl
        simp only [putAll, List.foldl_cons, List.foldl_nil, Act.put, List.setIfInBounds_toArray, List.set_cons_succ, List.set_cons_zero, List.drop_succ_cons, List.drop_zero, e21, e22]
        generalize vs 15 = s15
        generalize vs 16 = s16
        generalize vs 17 = s17
        generalize vs 18 = s18
        generalize vs 19 = s19
        generalize vs 20 = s20
        refine wpList_st rfl rfl rfl rfl rfl (sto_R c21 k21 (HE.out.get 2 rfl)) ?_
        have HE' : Env (putAt (putAt X2 (w.heap.size + 1 + 1) 0 u21 y21) (w.heap.size + 1 + 1) 2 p21 q21) [⟨w.heap.size, 58, [rC f.n, rC f.d]⟩, ⟨w.heap.size + 1, 58, [rC g.n, rC g.d]⟩, ⟨w.heap.size + 1 + 1, 58, [zC (fitn (qn (f.n.val * g.d.val + -g.n.val * f.d.val) (f.d.val * g.d.val)) (qd (f.n.val * g.d.val + -g.n.val * f.d.val) (f.d.val * g.d.val))), zC (fitd (qn (f.n.val * g.d.val + -g.n.val * f.d.val) (f.d.val * g.d.val)) (qd (f.n.val * g.d.val + -g.n.val * f.d.val) (f.d.val * g.d.val)))]⟩] := HE.out.put4 2 rfl c21 k21
        have HB' := below_put4 (u := u21) (v := y21) (u' := p21) (v' := q21) HB.out (show w.heap.size ≤ w.heap.size + 1 + 1 from by omega)
        generalize putAt (putAt X2 (w.heap.size + 1 + 1) 0 u21 y21) (w.heap.size + 1 + 1) 2 p21 q21 = X3 at *
        replace HE := Hd.mk HE'
        replace HB := Hd.mk HB'
        clear HE' HB'
        clear hv hal hne hb
        go_wp2_with fail
        obtain ⟨r0a, r0b, r0c, r0d, k0a, k0b, k0c, k0d, h0a, h0b⟩ := (HE.out.get 2 rfl).cells2
        refine bodyPost_ret (v := .tuple #[.agg #[r0a, r0b, r0c, r0d], .int .i64 (fitc (qn (f.n.val * g.d.val + -g.n.val * f.d.val) (f.d.val * g.d.val)) (qd (f.n.val * g.d.val + -g.n.val * f.d.val) (f.d.val * g.d.val)))]) (by simp [results, Try.results60, go_sem, k0a, k0b, k0c, k0d]) rfl ?_
        exact ⟨_, rfl, HB.out, _, _, rfl, isL_two.2 ⟨_, _, _, _, rfl, h0a, h0b⟩, rfl⟩
  · have hno : (f.ok && g.ok) = false := by simpa using hok
    have e1 : rqn f g (f.n.val * g.d.val + -g.n.val * f.d.val) (f.d.val * g.d.val) = 0 := if_neg hok
    have e2 : rqd f g (f.n.val * g.d.val + -g.n.val * f.d.val) (f.d.val * g.d.val) = 0 := if_neg hok
    have e3 : rqe f g (f.n.val * g.d.val + -g.n.val * f.d.val) (f.d.val * g.d.val) = 2 := if_neg hok
    rw [e1, e2, e3]
    clear e1 e2 e3 hok
    by_cases hf : f.ok = true
    · have hg : g.ok = false := by rw [hf] at hno; simpa using hno
      have HOf := Hd.mk hf
      have HOg := Hd.mk hg
      clear hf hg hno
      go_enter Try.func60, Try.ntmps60
      go_upto_region 1 with fail
      obtain ⟨W0, hW0⟩ : ∃ W : World, W = ((w.alloc (.cells #[u0, x0, y0, z0] 58)).alloc (.cells #[u1, x1, y1, z1] 58)).alloc (.cells #[Value.bool false, Value.slice none 0 0, Value.bool false, Value.slice none 0 0] 58) := ⟨_, rfl⟩
      rw [← hW0]
      obtain ⟨he, hb⟩ := env_three (cp2 p0 q0) (cp2 p1 q1) (cp2 (cp0 _) (cp0 _)) hW0
      have HE := Hd.mk he
      have HB := Hd.mk hb
      clear he hb hW0
      refine wp_region_vd 8 [6, 7, 8, 9, 10, 11, 12, 13] [2, 3, 6, 7] [] 70 [.bool false, .slice none 0 0] [isL [rC f.n, rC f.d], isV (.bool true), isV (.bool false), isV (.bool false), isL [rC g.n, rC g.d], isV (.bool false), isV (.bool true), isV (.bool true)] (by rfl) alloc_whole ?_ ?_
      · intro i hi hA aa wx hb hs hd
        match i, hi, hA with
        | 0, _, _ => exact .inl ⟨rfl, op_ldR rfl rfl (hs 2 rfl) ((HE.out.to hb).get 0 rfl)⟩
        | 1, _, _ => exact .inl ⟨rfl, wp_b HOf.out (op_call1 rfl rfl Try.call50 (ValidRat_got f _ _ (hd 0 rfl)))⟩
        | 2, _, _ => exact .inl ⟨rfl, ⟨_, op_not rfl (hd 1 rfl), rfl⟩⟩
        | 3, _, _ => exact .inl ⟨rfl, op_mv rfl (hd 2 rfl)⟩
        | 4, _, _ => exact .inl ⟨⟨rfl, hd 3 rfl⟩, op_ldR rfl rfl (hs 3 rfl) ((HE.out.to hb).get 1 rfl)⟩
        | 5, _, _ => exact .inl ⟨⟨rfl, hd 3 rfl⟩, wp_b HOg.out (op_call1 rfl rfl Try.call50 (ValidRat_got g _ _ (hd 4 rfl)))⟩
        | 6, _, _ => exact .inl ⟨⟨rfl, hd 3 rfl⟩, ⟨_, op_not rfl (hd 5 rfl), rfl⟩⟩
        | 7, _, _ => exact .inl ⟨rfl, ⟨_, op_pickF rfl (hd 3 rfl) (hd 6 rfl), rfl⟩⟩
        | i + 8, h, _ => omega
      · intro vs X1 hb hv hal hne
        replace HB := Hd.mk (bel_then HB.out hb)
        replace HE : Hd (Env X1 [⟨w.heap.size, 58, [rC f.n, rC f.d]⟩, ⟨w.heap.size + 1, 58, [rC g.n, rC g.d]⟩, ⟨w.heap.size + 1 + 1, 58, [zC 0, zC 0]⟩]) := ⟨HE.out.to hb⟩
        have e13 : vs 13 = .bool true := hv 7 (by decide) rfl
        simp only [putAll, List.foldl_cons, List.foldl_nil, Act.put, List.setIfInBounds_toArray, List.set_cons_succ, List.set_cons_zero, List.drop_succ_cons, List.drop_zero, e13]
        generalize vs 6 = s6
        generalize vs 7 = s7
        generalize vs 8 = s8
        generalize vs 9 = s9
        generalize vs 10 = s10
        generalize vs 11 = s11
        generalize vs 12 = s12
        clear hv hal hne hb
        go_upto_region 2 with fail
        refine wp_region_vd 1 [14] [0] [] 70 [.bool false, .slice none 0 0] [isL [zC 0, zC 0]] (by rfl) alloc_whole ?_ ?_
        · intro i hi hA aa wx hb hs hd
          match i, hi, hA with
          | 0, _, _ => exact .inl ⟨rfl, op_b0R rfl⟩
          | i + 1, h, _ => omega
        · intro vs X2 hb hv hal hne
          replace HB := Hd.mk (bel_then HB.out hb)
          replace HE : Hd (Env X2 [⟨w.heap.size, 58, [rC f.n, rC f.d]⟩, ⟨w.heap.size + 1, 58, [rC g.n, rC g.d]⟩, ⟨w.heap.size + 1 + 1, 58, [zC 0, zC 0]⟩]) := ⟨HE.out.to hb⟩
          have t14 : (isL [zC 0, zC 0]).p (vs 14) X2 := hv 0 (by decide) rfl
          obtain ⟨u14, y14, p14, q14, e14, c14, k14⟩ := isL_two.1 t14
          simp only [putAll, List.foldl_cons, List.foldl_nil, Act.put, List.setIfInBounds_toArray, List.set_cons_succ, List.set_cons_zero, List.drop_succ_cons, List.drop_zero, e14]
          refine wpList_st rfl rfl rfl rfl rfl (sto_R c14 k14 (HE.out.get 2 rfl)) ?_
          have HE' : Env (putAt (putAt X2 (w.heap.size + 1 + 1) 0 u14 y14) (w.heap.size + 1 + 1) 2 p14 q14) [⟨w.heap.size, 58, [rC f.n, rC f.d]⟩, ⟨w.heap.size + 1, 58, [rC g.n, rC g.d]⟩, ⟨w.heap.size + 1 + 1, 58, [zC 0, zC 0]⟩] := HE.out.put4 2 rfl c14 k14
          have HB' := below_put4 (u := u14) (v := y14) (u' := p14) (v' := q14) HB.out (show w.heap.size ≤ w.heap.size + 1 + 1 from by omega)
          generalize putAt (putAt X2 (w.heap.size + 1 + 1) 0 u14 y14) (w.heap.size + 1 + 1) 2 p14 q14 = X3 at *
          replace HE := Hd.mk HE'
          replace HB := Hd.mk HB'
          clear HE' HB'
          clear hv hal hne hb
          go_wp2_with fail
          obtain ⟨r0a, r0b, r0c, r0d, k0a, k0b, k0c, k0d, h0a, h0b⟩ := (HE.out.get 2 rfl).cells2
          refine bodyPost_ret (v := .tuple #[.agg #[r0a, r0b, r0c, r0d], .int .i64 2]) (by simp [results, Try.results60, go_sem, k0a, k0b, k0c, k0d]) rfl ?_
          exact ⟨_, rfl, HB.out, _, _, rfl, isL_two.2 ⟨_, _, _, _, rfl, h0a, h0b⟩, rfl⟩
    · have hf' : f.ok = false := by simpa using hf
      have HOf := Hd.mk hf'
      clear hf hf' hno
      go_enter Try.func60, Try.ntmps60
      go_upto_region 1 with fail
      obtain ⟨W0, hW0⟩ : ∃ W : World, W = ((w.alloc (.cells #[u0, x0, y0, z0] 58)).alloc (.cells #[u1, x1, y1, z1] 58)).alloc (.cells #[Value.bool false, Value.slice none 0 0, Value.bool false, Value.slice none 0 0] 58) := ⟨_, rfl⟩
      rw [← hW0]
      obtain ⟨he, hb⟩ := env_three (cp2 p0 q0) (cp2 p1 q1) (cp2 (cp0 _) (cp0 _)) hW0
      have HE := Hd.mk he
      have HB := Hd.mk hb
      clear he hb hW0
      refine wp_region_vd 8 [6, 7, 8, 9, 10, 11, 12, 13] [2, 3, 7] [] 70 [.bool false, .slice none 0 0] [isL [rC f.n, rC f.d], isV (.bool false), isV (.bool true), isV (.bool true), SP.any, SP.any, SP.any, isV (.bool true)] (by rfl) alloc_whole ?_ ?_
      · intro i hi hA aa wx hb hs hd
        match i, hi, hA with
        | 0, _, _ => exact .inl ⟨rfl, op_ldR rfl rfl (hs 2 rfl) ((HE.out.to hb).get 0 rfl)⟩
        | 1, _, _ => exact .inl ⟨rfl, wp_b HOf.out (op_call1 rfl rfl Try.call50 (ValidRat_got f _ _ (hd 0 rfl)))⟩
        | 2, _, _ => exact .inl ⟨rfl, ⟨_, op_not rfl (hd 1 rfl), rfl⟩⟩
        | 3, _, _ => exact .inl ⟨rfl, op_mv rfl (hd 2 rfl)⟩
        | 4, _, _ => exact .inr ⟨⟨rfl, hd 3 rfl⟩, trivial⟩
        | 5, _, _ => exact .inr ⟨⟨rfl, hd 3 rfl⟩, trivial⟩
        | 6, _, _ => exact .inr ⟨⟨rfl, hd 3 rfl⟩, trivial⟩
        | 7, _, _ => exact .inl ⟨rfl, ⟨_, op_pickT rfl (hd 3 rfl) rfl, rfl⟩⟩
        | i + 8, h, _ => omega
      · intro vs X1 hb hv hal hne
        replace HB := Hd.mk (bel_then HB.out hb)
        replace HE : Hd (Env X1 [⟨w.heap.size, 58, [rC f.n, rC f.d]⟩, ⟨w.heap.size + 1, 58, [rC g.n, rC g.d]⟩, ⟨w.heap.size + 1 + 1, 58, [zC 0, zC 0]⟩]) := ⟨HE.out.to hb⟩
        have e13 : vs 13 = .bool true := hv 7 (by decide) rfl
        simp only [putAll, List.foldl_cons, List.foldl_nil, Act.put, List.setIfInBounds_toArray, List.set_cons_succ, List.set_cons_zero, List.drop_succ_cons, List.drop_zero, e13]
        generalize vs 6 = s6
        generalize vs 7 = s7
        generalize vs 8 = s8
        generalize vs 9 = s9
        generalize vs 10 = s10
        generalize vs 11 = s11
        generalize vs 12 = s12
        clear hv hal hne hb
        go_upto_region 2 with fail
        refine wp_region_vd 1 [14] [0] [] 70 [.bool false, .slice none 0 0] [isL [zC 0, zC 0]] (by rfl) alloc_whole ?_ ?_
        · intro i hi hA aa wx hb hs hd
          match i, hi, hA with
          | 0, _, _ => exact .inl ⟨rfl, op_b0R rfl⟩
          | i + 1, h, _ => omega
        · intro vs X2 hb hv hal hne
          replace HB := Hd.mk (bel_then HB.out hb)
          replace HE : Hd (Env X2 [⟨w.heap.size, 58, [rC f.n, rC f.d]⟩, ⟨w.heap.size + 1, 58, [rC g.n, rC g.d]⟩, ⟨w.heap.size + 1 + 1, 58, [zC 0, zC 0]⟩]) := ⟨HE.out.to hb⟩
          have t14 : (isL [zC 0, zC 0]).p (vs 14) X2 := hv 0 (by decide) rfl
          obtain ⟨u14, y14, p14, q14, e14, c14, k14⟩ := isL_two.1 t14
          simp only [putAll, List.foldl_cons, List.foldl_nil, Act.put, List.setIfInBounds_toArray, List.set_cons_succ, List.set_cons_zero, List.drop_succ_cons, List.drop_zero, e14]
          refine wpList_st rfl rfl rfl rfl rfl (sto_R c14 k14 (HE.out.get 2 rfl)) ?_
          have HE' : Env (putAt (putAt X2 (w.heap.size + 1 + 1) 0 u14 y14) (w.heap.size + 1 + 1) 2 p14 q14) [⟨w.heap.size, 58, [rC f.n, rC f.d]⟩, ⟨w.heap.size + 1, 58, [rC g.n, rC g.d]⟩, ⟨w.heap.size + 1 + 1, 58, [zC 0, zC 0]⟩] := HE.out.put4 2 rfl c14 k14
          have HB' := below_put4 (u := u14) (v := y14) (u' := p14) (v' := q14) HB.out (show w.heap.size ≤ w.heap.size + 1 + 1 from by omega)
          generalize putAt (putAt X2 (w.heap.size + 1 + 1) 0 u14 y14) (w.heap.size + 1 + 1) 2 p14 q14 = X3 at *
          replace HE := Hd.mk HE'
          replace HB := Hd.mk HB'
          clear HE' HB'
          clear hv hal hne hb
          go_wp2_with fail
          obtain ⟨r0a, r0b, r0c, r0d, k0a, k0b, k0c, k0d, h0a, h0b⟩ := (HE.out.get 2 rfl).cells2
          refine bodyPost_ret (v := .tuple #[.agg #[r0a, r0b, r0c, r0d], .int .i64 2]) (by simp [results, Try.results60, go_sem, k0a, k0b, k0c, k0d]) rfl ?_
          exact ⟨_, rfl, HB.out, _, _, rfl, isL_two.2 ⟨_, _, _, _, rfl, h0a, h0b⟩, rfl⟩
set_option maxRecDepth 100000 in
set_option maxHeartbeats 1000000 in
theorem twomul_got (f g : RQ) (v0 v1 : Value) (w : World) (h0 : (isL [rC f.n, rC f.d]).p v0 w) (h1 : (isL [rC g.n, rC g.d]).p v1 w) :
    Calls Try.prog 99 #[v0, v1, .func (.func 101) #[] #[]] w (Got w (isP (isL [zC (rqn f g (f.n.val * g.n.val) (f.d.val * g.d.val)), zC (rqd f g (f.n.val * g.n.val) (f.d.val * g.d.val))]) (isV (.int .i64 (rqe f g (f.n.val * g.n.val) (f.d.val * g.d.val))))).p) := by
  obtain ⟨u0, x0, y0, z0, rfl, p0, q0⟩ := isL_two.1 h0
  obtain ⟨u1, x1, y1, z1, rfl, p1, q1⟩ := isL_two.1 h1
  clear h0 h1
  by_cases hok : (f.ok && g.ok) = true
  · have hf : f.ok = true := by simp at hok; exact hok.1
    have hg : g.ok = true := by simp at hok; exact hok.2
    obtain ⟨l1, l2⟩ := ok_lens hf p0 q0
    obtain ⟨l3, l4⟩ := ok_lens hg p1 q1
    have HOf := Hd.mk hf
    have HOg := Hd.mk hg
    have HB0 : Hd (f.d.val ≠ 0) := ⟨by have := RQ.ok_pos hf; omega⟩
    have HD0 : Hd (g.d.val ≠ 0) := ⟨by have := RQ.ok_pos hg; omega⟩
    have HOK : Hd ([f, g].all RQ.ok = true) := ⟨by rw [all_rq2]; exact hok⟩
    have bD : ln (f.d.val * g.d.val).natAbs ≤ 2000 := Nat.le_trans (ln_zmul _ _) (by omega)
    have bN : ln (f.n.val * g.n.val).natAbs ≤ 2000 := Nat.le_trans (ln_zmul _ _) (by omega)
    have HL1 : Hd (ln (qn (f.n.val * g.n.val) (f.d.val * g.d.val)).natAbs ≤ 100000) := ⟨Nat.le_trans (ln_qn _ _) (by omega)⟩
    have HL2 : Hd (ln (qd (f.n.val * g.n.val) (f.d.val * g.d.val)).natAbs ≤ 100000) := ⟨Nat.le_trans (ln_qd _ _) (by omega)⟩
    have e1 : rqn f g (f.n.val * g.n.val) (f.d.val * g.d.val) = fitn (qn (f.n.val * g.n.val) (f.d.val * g.d.val)) (qd (f.n.val * g.n.val) (f.d.val * g.d.val)) := if_pos hok
    have e2 : rqd f g (f.n.val * g.n.val) (f.d.val * g.d.val) = fitd (qn (f.n.val * g.n.val) (f.d.val * g.d.val)) (qd (f.n.val * g.n.val) (f.d.val * g.d.val)) := if_pos hok
    have e3 : rqe f g (f.n.val * g.n.val) (f.d.val * g.d.val) = fitc (qn (f.n.val * g.n.val) (f.d.val * g.d.val)) (qd (f.n.val * g.n.val) (f.d.val * g.d.val)) := if_pos hok
    rw [e1, e2, e3]
    clear e1 e2 e3 hok hf hg
    go_enter Try.func99, Try.ntmps99
    go_upto_region 1 with fail
    obtain ⟨W0, hW0⟩ : ∃ W : World, W = ((w.alloc (.cells #[u0, x0, y0, z0] 58)).alloc (.cells #[u1, x1, y1, z1] 58)).alloc (.cells #[Value.bool false, Value.slice none 0 0, Value.bool false, Value.slice none 0 0] 58) := ⟨_, rfl⟩
    rw [← hW0]
    obtain ⟨he, hb⟩ := env_three (cp2 p0 q0) (cp2 p1 q1) (cp2 (cp0 _) (cp0 _)) hW0
    have HE := Hd.mk he
    have HB := Hd.mk hb
    clear he hb hW0
    refine wp_region_vd 5 [8, 9, 10, 11, 12] [4] [] 70 [.bool false, .slice none 0 0] [isL [rC f.n, rC f.d], isL [rC g.n, rC g.d], isRats [f, g], isV (.bool true), isV (.bool false)] (by rfl) alloc_whole ?_ ?_
    · intro i hi hA aa wx hb hs hd
      match i, hi, hA with
      | 0, _, _ => exact .inl ⟨rfl, op_ldR rfl rfl (hs 3 rfl) ((HE.out.to hb).get 0 rfl)⟩
      | 1, _, _ => exact .inl ⟨rfl, op_ldR rfl rfl (hs 4 rfl) ((HE.out.to hb).get 1 rfl)⟩
      | 2, _, _ => exact .inl ⟨rfl, op_bsR2 rfl rfl (hd 0 rfl) (hd 1 rfl)⟩
      | 3, _, _ => exact .inl ⟨rfl, wp_b HOK.out (op_call1 rfl rfl Try.call102 (validRats_got [f, g] (by show 2 ≤ 2; omega) _ _ (hd 2 rfl)))⟩
      | 4, _, _ => exact .inl ⟨rfl, ⟨_, op_not rfl (hd 3 rfl), rfl⟩⟩
      | i + 5, h, _ => omega
    · intro vs X1 hb hv hal hne
      replace HB := Hd.mk (bel_then HB.out hb)
      replace HE : Hd (Env X1 [⟨w.heap.size, 58, [rC f.n, rC f.d]⟩, ⟨w.heap.size + 1, 58, [rC g.n, rC g.d]⟩, ⟨w.heap.size + 1 + 1, 58, [zC 0, zC 0]⟩]) := ⟨HE.out.to hb⟩
      have e12 : vs 12 = .bool false := hv 4 (by decide) rfl
      simp only [putAll, List.foldl_cons, List.foldl_nil, Act.put, List.setIfInBounds_toArray, List.set_cons_succ, List.set_cons_zero, List.drop_succ_cons, List.drop_zero, e12]
      generalize vs 8 = s8
      generalize vs 9 = s9
      generalize vs 10 = s10
      generalize vs 11 = s11
      clear hv hal hne hb
      go_upto_region 3 with fail
      refine wp_region_vs 9 [14, 15, 16, 17, 18, 19, 20, 21, 22] [0, 7, 8] [] 70 [.bool false, .slice none 0 0] [isV (.func (.func 101) #[] #[]), isL [rC f.n, rC f.d], isL [zC f.n.val, zC f.d.val], isL [rC g.n, rC g.d], isL [zC g.n.val, zC g.d.val], isL [zC (qn (f.n.val * g.n.val) (f.d.val * g.d.val)), zC (qd (f.n.val * g.n.val) (f.d.val * g.d.val))], isP (isL [zC (fitn (qn (f.n.val * g.n.val) (f.d.val * g.d.val)) (qd (f.n.val * g.n.val) (f.d.val * g.d.val))), zC (fitd (qn (f.n.val * g.n.val) (f.d.val * g.d.val)) (qd (f.n.val * g.n.val) (f.d.val * g.d.val)))]) (isV (.int .i64 (fitc (qn (f.n.val * g.n.val) (f.d.val * g.d.val)) (qd (f.n.val * g.n.val) (f.d.val * g.d.val))))), isL [zC (fitn (qn (f.n.val * g.n.val) (f.d.val * g.d.val)) (qd (f.n.val * g.n.val) (f.d.val * g.d.val))), zC (fitd (qn (f.n.val * g.n.val) (f.d.val * g.d.val)) (qd (f.n.val * g.n.val) (f.d.val * g.d.val)))], isV (.int .i64 (fitc (qn (f.n.val * g.n.val) (f.d.val * g.d.val)) (qd (f.n.val * g.n.val) (f.d.val * g.d.val))))] (by kernel_rfl) (by kernel_rfl) (by kernel_rfl) (by rfl) alloc_whole (fun d v c a w h => by cases d <;> exact h) ?_ ?_
      · intro i hi hA aa wx hb hs hd
        match i, hi, hA with
        | 0, _, _ => exact op_mv rfl (hs 2 rfl)
        | 1, _, _ => exact op_ldR rfl rfl (hs 3 rfl) ((HE.out.to hb).get 0 rfl)
        | 2, _, _ => exact op_call1 rfl rfl Try.call103 (ratOf_got f HOf.out _ _ (hd 1 rfl))
        | 3, _, _ => exact op_ldR rfl rfl (hs 4 rfl) ((HE.out.to hb).get 1 rfl)
        | 4, _, _ => exact op_call1 rfl rfl Try.call103 (ratOf_got g HOg.out _ _ (hd 3 rfl))
        | 5, _, _ => exact op_callv2 (hd 0 rfl) rfl rfl Try.call101 (qmul_got f.n.val f.d.val g.n.val g.d.val _ _ _ (hd 2 rfl) (hd 4 rfl) HB0.out HD0.out (by omega) (by omega) (by omega) (by omega))
        | 6, _, _ => exact op_call1 rfl rfl Try.call131 (qfits_got (qn (f.n.val * g.n.val) (f.d.val * g.d.val)) (qd (f.n.val * g.n.val) (f.d.val * g.d.val)) HL1.out HL2.out _ _ (hd 5 rfl))
        | 7, _, _ => exact op_fst rfl (hd 6 rfl)
        | 8, _, _ => exact op_snd rfl (hd 6 rfl)
        | i + 9, h, _ => omega
      · intro vs X2 hb hv hal hne
        replace HB := Hd.mk (bel_then HB.out hb)
        replace HE : Hd (Env X2 [⟨w.heap.size, 58, [rC f.n, rC f.d]⟩, ⟨w.heap.size + 1, 58, [rC g.n, rC g.d]⟩, ⟨w.heap.size + 1 + 1, 58, [zC 0, zC 0]⟩]) := ⟨HE.out.to hb⟩
        have t21 : (isL [zC (fitn (qn (f.n.val * g.n.val) (f.d.val * g.d.val)) (qd (f.n.val * g.n.val) (f.d.val * g.d.val))), zC (fitd (qn (f.n.val * g.n.val) (f.d.val * g.d.val)) (qd (f.n.val * g.n.val) (f.d.val * g.d.val)))]).p (vs 21) X2 := hv 7 (by decide) rfl
        obtain ⟨u21, y21, p21, q21, e21, c21, k21⟩ := isL_two.1 t21
        have e22 : vs 22 = .int .i64 (fitc (qn (f.n.val * g.n.val) (f.d.val * g.d.val)) (qd (f.n.val * g.n.val) (f.d.val * g.d.val))) := hv 8 (by decide) rfl
        simp only [putAll, List.foldl_cons, List.foldl_nil, Act.put, List.setIfInBounds_toArray, List.set_cons_succ, List.set_cons_zero, List.drop_succ_cons, List.drop_zero, e21, e22]
        generalize vs 14 = s14
        generalize vs 15 = s15
        generalize vs 16 = s16
        generalize vs 17 = s17
        generalize vs 18 = s18
        generalize vs 19 = s19
        generalize vs 20 = s20
        refine wpList_st rfl rfl rfl rfl rfl (sto_R c21 k21 (HE.out.get 2 rfl)) ?_
        have HE' : Env (putAt (putAt X2 (w.heap.size + 1 + 1) 0 u21 y21) (w.heap.size + 1 + 1) 2 p21 q21) [⟨w.heap.size, 58, [rC f.n, rC f.d]⟩, ⟨w.heap.size + 1, 58, [rC g.n, rC g.d]⟩, ⟨w.heap.size + 1 + 1, 58, [zC (fitn (qn (f.n.val * g.n.val) (f.d.val * g.d.val)) (qd (f.n.val * g.n.val) (f.d.val * g.d.val))), zC (fitd (qn (f.n.val * g.n.val) (f.d.val * g.d.val)) (qd (f.n.val * g.n.val) (f.d.val * g.d.val)))]⟩] := HE.out.put4 2 rfl c21 k21
        have HB' := below_put4 (u := u21) (v := y21) (u' := p21) (v' := q21) HB.out (show w.heap.size ≤ w.heap.size + 1 + 1 from by omega)
        generalize putAt (putAt X2 (w.heap.size + 1 + 1) 0 u21 y21) (w.heap.size + 1 + 1) 2 p21 q21 = X3 at *
        replace HE := Hd.mk HE'
        replace HB := Hd.mk HB'
        clear HE' HB'
        clear hv hal hne hb
        go_wp2_with fail
        obtain ⟨r0a, r0b, r0c, r0d, k0a, k0b, k0c, k0d, h0a, h0b⟩ := (HE.out.get 2 rfl).cells2
        refine bodyPost_ret (v := .tuple #[.agg #[r0a, r0b, r0c, r0d], .int .i64 (fitc (qn (f.n.val * g.n.val) (f.d.val * g.d.val)) (qd (f.n.val * g.n.val) (f.d.val * g.d.val)))]) (by simp [results, Try.results99, go_sem, k0a, k0b, k0c, k0d]) rfl ?_
        exact ⟨_, rfl, HB.out, _, _, rfl, isL_two.2 ⟨_, _, _, _, rfl, h0a, h0b⟩, rfl⟩
  · have hno : (f.ok && g.ok) = false := by simpa using hok
    have HOK : Hd ([f, g].all RQ.ok = false) := ⟨by rw [all_rq2]; exact hno⟩
    have e1 : rqn f g (f.n.val * g.n.val) (f.d.val * g.d.val) = 0 := if_neg hok
    have e2 : rqd f g (f.n.val * g.n.val) (f.d.val * g.d.val) = 0 := if_neg hok
    have e3 : rqe f g (f.n.val * g.n.val) (f.d.val * g.d.val) = 2 := if_neg hok
    rw [e1, e2, e3]
    clear e1 e2 e3 hok hno
    go_enter Try.func99, Try.ntmps99
    go_upto_region 1 with fail
    obtain ⟨W0, hW0⟩ : ∃ W : World, W = ((w.alloc (.cells #[u0, x0, y0, z0] 58)).alloc (.cells #[u1, x1, y1, z1] 58)).alloc (.cells #[Value.bool false, Value.slice none 0 0, Value.bool false, Value.slice none 0 0] 58) := ⟨_, rfl⟩
    rw [← hW0]
    obtain ⟨he, hb⟩ := env_three (cp2 p0 q0) (cp2 p1 q1) (cp2 (cp0 _) (cp0 _)) hW0
    have HE := Hd.mk he
    have HB := Hd.mk hb
    clear he hb hW0
    refine wp_region_vd 5 [8, 9, 10, 11, 12] [4] [] 70 [.bool false, .slice none 0 0] [isL [rC f.n, rC f.d], isL [rC g.n, rC g.d], isRats [f, g], isV (.bool false), isV (.bool true)] (by rfl) alloc_whole ?_ ?_
    · intro i hi hA aa wx hb hs hd
      match i, hi, hA with
      | 0, _, _ => exact .inl ⟨rfl, op_ldR rfl rfl (hs 3 rfl) ((HE.out.to hb).get 0 rfl)⟩
      | 1, _, _ => exact .inl ⟨rfl, op_ldR rfl rfl (hs 4 rfl) ((HE.out.to hb).get 1 rfl)⟩
      | 2, _, _ => exact .inl ⟨rfl, op_bsR2 rfl rfl (hd 0 rfl) (hd 1 rfl)⟩
      | 3, _, _ => exact .inl ⟨rfl, wp_b HOK.out (op_call1 rfl rfl Try.call102 (validRats_got [f, g] (by show 2 ≤ 2; omega) _ _ (hd 2 rfl)))⟩
      | 4, _, _ => exact .inl ⟨rfl, ⟨_, op_not rfl (hd 3 rfl), rfl⟩⟩
      | i + 5, h, _ => omega
    · intro vs X1 hb hv hal hne
      replace HB := Hd.mk (bel_then HB.out hb)
      replace HE : Hd (Env X1 [⟨w.heap.size, 58, [rC f.n, rC f.d]⟩, ⟨w.heap.size + 1, 58, [rC g.n, rC g.d]⟩, ⟨w.heap.size + 1 + 1, 58, [zC 0, zC 0]⟩]) := ⟨HE.out.to hb⟩
      have e12 : vs 12 = .bool true := hv 4 (by decide) rfl
      simp only [putAll, List.foldl_cons, List.foldl_nil, Act.put, List.setIfInBounds_toArray, List.set_cons_succ, List.set_cons_zero, List.drop_succ_cons, List.drop_zero, e12]
      generalize vs 8 = s8
      generalize vs 9 = s9
      generalize vs 10 = s10
      generalize vs 11 = s11
      clear hv hal hne hb
      go_upto_region 2 with fail
      refine wp_region_vd 1 [13] [0] [] 70 [.bool false, .slice none 0 0] [isL [zC 0, zC 0]] (by rfl) alloc_whole ?_ ?_
      · intro i hi hA aa wx hb hs hd
        match i, hi, hA with
        | 0, _, _ => exact .inl ⟨rfl, op_b0R rfl⟩
        | i + 1, h, _ => omega
      · intro vs X2 hb hv hal hne
        replace HB := Hd.mk (bel_then HB.out hb)
        replace HE : Hd (Env X2 [⟨w.heap.size, 58, [rC f.n, rC f.d]⟩, ⟨w.heap.size + 1, 58, [rC g.n, rC g.d]⟩, ⟨w.heap.size + 1 + 1, 58, [zC 0, zC 0]⟩]) := ⟨HE.out.to hb⟩
        have t13 : (isL [zC 0, zC 0]).p (vs 13) X2 := hv 0 (by decide) rfl
        obtain ⟨u13, y13, p13, q13, e13, c13, k13⟩ := isL_two.1 t13
        simp only [putAll, List.foldl_cons, List.foldl_nil, Act.put, List.setIfInBounds_toArray, List.set_cons_succ, List.set_cons_zero, List.drop_succ_cons, List.drop_zero, e13]
        refine wpList_st rfl rfl rfl rfl rfl (sto_R c13 k13 (HE.out.get 2 rfl)) ?_
        have HE' : Env (putAt (putAt X2 (w.heap.size + 1 + 1) 0 u13 y13) (w.heap.size + 1 + 1) 2 p13 q13) [⟨w.heap.size, 58, [rC f.n, rC f.d]⟩, ⟨w.heap.size + 1, 58, [rC g.n, rC g.d]⟩, ⟨w.heap.size + 1 + 1, 58, [zC 0, zC 0]⟩] := HE.out.put4 2 rfl c13 k13
        have HB' := below_put4 (u := u13) (v := y13) (u' := p13) (v' := q13) HB.out (show w.heap.size ≤ w.heap.size + 1 + 1 from by omega)
        generalize putAt (putAt X2 (w.heap.size + 1 + 1) 0 u13 y13) (w.heap.size + 1 + 1) 2 p13 q13 = X3 at *
        replace HE := Hd.mk HE'
        replace HB := Hd.mk HB'
        clear HE' HB'
        clear hv hal hne hb
        go_wp2_with fail
        obtain ⟨r0a, r0b, r0c, r0d, k0a, k0b, k0c, k0d, h0a, h0b⟩ := (HE.out.get 2 rfl).cells2
        refine bodyPost_ret (v := .tuple #[.agg #[r0a, r0b, r0c, r0d], .int .i64 2]) (by simp [results, Try.results99, go_sem, k0a, k0b, k0c, k0d]) rfl ?_
        exact ⟨_, rfl, HB.out, _, _, rfl, isL_two.2 ⟨_, _, _, _, rfl, h0a, h0b⟩, rfl⟩
set_option maxRecDepth 100000 in
set_option maxHeartbeats 1000000 in
theorem RatMul_got (f g : RQ) (v0 v1 : Value) (w : World) (h0 : (isL [rC f.n, rC f.d]).p v0 w) (h1 : (isL [rC g.n, rC g.d]).p v1 w) :
    Calls Try.prog 52 #[v0, v1] w (Got w (isP (isL [zC (rqn f g (f.n.val * g.n.val) (f.d.val * g.d.val)), zC (rqd f g (f.n.val * g.n.val) (f.d.val * g.d.val))]) (isV (.int .i64 (rqe f g (f.n.val * g.n.val) (f.d.val * g.d.val))))).p) := by
  obtain ⟨u0, x0, y0, z0, rfl, p0, q0⟩ := isL_two.1 h0
  obtain ⟨u1, x1, y1, z1, rfl, p1, q1⟩ := isL_two.1 h1
  clear h0 h1
  go_enter Try.func52, Try.ntmps52
  go_upto_region 1 with fail
  obtain ⟨W0, hW0⟩ : ∃ W : World, W = ((w.alloc (.cells #[u0, x0, y0, z0] 58)).alloc (.cells #[u1, x1, y1, z1] 58)).alloc (.cells #[Value.bool false, Value.slice none 0 0, Value.bool false, Value.slice none 0 0] 58) := ⟨_, rfl⟩
  rw [← hW0]
  obtain ⟨he, hb⟩ := env_three (cp2 p0 q0) (cp2 p1 q1) (cp2 (cp0 _) (cp0 _)) hW0
  have HE := Hd.mk he
  have HB := Hd.mk hb
  clear he hb hW0
  refine wp_region_vd 5 [6, 7, 8, 9, 10] [3, 4] [] 70 [.bool false, .slice none 0 0] [isL [rC f.n, rC f.d], isL [rC g.n, rC g.d], isP (isL [zC (rqn f g (f.n.val * g.n.val) (f.d.val * g.d.val)), zC (rqd f g (f.n.val * g.n.val) (f.d.val * g.d.val))]) (isV (.int .i64 (rqe f g (f.n.val * g.n.val) (f.d.val * g.d.val)))), isL [zC (rqn f g (f.n.val * g.n.val) (f.d.val * g.d.val)), zC (rqd f g (f.n.val * g.n.val) (f.d.val * g.d.val))], isV (.int .i64 (rqe f g (f.n.val * g.n.val) (f.d.val * g.d.val)))] (by rfl) alloc_whole ?_ ?_
  · intro i hi hA aa wx hb hs hd
    match i, hi, hA with
    | 0, _, _ => exact .inl ⟨rfl, op_ldR rfl rfl (hs 2 rfl) ((HE.out.to hb).get 0 rfl)⟩
    | 1, _, _ => exact .inl ⟨rfl, op_ldR rfl rfl (hs 3 rfl) ((HE.out.to hb).get 1 rfl)⟩
    | 2, _, _ => exact .inl ⟨rfl, op_call3 rfl rfl Try.call99 (twomul_got f g _ _ _ (hd 0 rfl) (hd 1 rfl))⟩
    | 3, _, _ => exact .inl ⟨rfl, op_fst rfl (hd 2 rfl)⟩
    | 4, _, _ => exact .inl ⟨rfl, op_snd rfl (hd 2 rfl)⟩
    | i + 5, h, _ => omega
  · intro vs X1 hb hv hal hne
    replace HB := Hd.mk (bel_then HB.out hb)
    replace HE : Hd (Env X1 [⟨w.heap.size, 58, [rC f.n, rC f.d]⟩, ⟨w.heap.size + 1, 58, [rC g.n, rC g.d]⟩, ⟨w.heap.size + 1 + 1, 58, [zC 0, zC 0]⟩]) := ⟨HE.out.to hb⟩
    have t9 : (isL [zC (rqn f g (f.n.val * g.n.val) (f.d.val * g.d.val)), zC (rqd f g (f.n.val * g.n.val) (f.d.val * g.d.val))]).p (vs 9) X1 := hv 3 (by decide) rfl
    obtain ⟨u9, y9, p9, q9, e9, c9, k9⟩ := isL_two.1 t9
    have e10 : vs 10 = .int .i64 (rqe f g (f.n.val * g.n.val) (f.d.val * g.d.val)) := hv 4 (by decide) rfl
    simp only [putAll, List.foldl_cons, List.foldl_nil, Act.put, List.setIfInBounds_toArray, List.set_cons_succ, List.set_cons_zero, List.drop_succ_cons, List.drop_zero, e9, e10]
    generalize vs 6 = s6
    generalize vs 7 = s7
    generalize vs 8 = s8
    refine wpList_st rfl rfl rfl rfl rfl (sto_R c9 k9 (HE.out.get 2 rfl)) ?_
    have HE' : Env (putAt (putAt X1 (w.heap.size + 1 + 1) 0 u9 y9) (w.heap.size + 1 + 1) 2 p9 q9) [⟨w.heap.size, 58, [rC f.n, rC f.d]⟩, ⟨w.heap.size + 1, 58, [rC g.n, rC g.d]⟩, ⟨w.heap.size + 1 + 1, 58, [zC (rqn f g (f.n.val * g.n.val) (f.d.val * g.d.val)), zC (rqd f g (f.n.val * g.n.val) (f.d.val * g.d.val))]⟩] := HE.out.put4 2 rfl c9 k9
    have HB' := below_put4 (u := u9) (v := y9) (u' := p9) (v' := q9) HB.out (show w.heap.size ≤ w.heap.size + 1 + 1 from by omega)
    generalize putAt (putAt X1 (w.heap.size + 1 + 1) 0 u9 y9) (w.heap.size + 1 + 1) 2 p9 q9 = X2 at *
    replace HE := Hd.mk HE'
    replace HB := Hd.mk HB'
    clear HE' HB'
    clear hv hal hne hb
    go_wp2_with fail
    obtain ⟨r0a, r0b, r0c, r0d, k0a, k0b, k0c, k0d, h0a, h0b⟩ := (HE.out.get 2 rfl).cells2
    refine bodyPost_ret (v := .tuple #[.agg #[r0a, r0b, r0c, r0d], .int .i64 (rqe f g (f.n.val * g.n.val) (f.d.val * g.d.val))]) (by simp [results, Try.results52, go_sem, k0a, k0b, k0c, k0d]) rfl ?_
    exact ⟨_, rfl, HB.out, _, _, rfl, isL_two.2 ⟨_, _, _, _, rfl, h0a, h0b⟩, rfl⟩
set_option maxRecDepth 100000 in
set_option maxHeartbeats 1000000 in
theorem rMul_got (f g : RQ) (v0 v1 : Value) (w : World) (h0 : (isL [rC f.n, rC f.d]).p v0 w) (h1 : (isL [rC g.n, rC g.d]).p v1 w) :
    Calls Try.prog 61 #[v0, v1] w (Got w (isP (isL [zC (rqn f g (f.n.val * g.n.val) (f.d.val * g.d.val)), zC (rqd f g (f.n.val * g.n.val) (f.d.val * g.d.val))]) (isV (.int .i64 (rqe f g (f.n.val * g.n.val) (f.d.val * g.d.val))))).p) := by
  obtain ⟨u0, x0, y0, z0, rfl, p0, q0⟩ := isL_two.1 h0
  obtain ⟨u1, x1, y1, z1, rfl, p1, q1⟩ := isL_two.1 h1
  clear h0 h1
  by_cases hok : (f.ok && g.ok) = true
  · have hf : f.ok = true := by simp at hok; exact hok.1
    have hg : g.ok = true := by simp at hok; exact hok.2
    obtain ⟨l1, l2⟩ := ok_lens hf p0 q0
    obtain ⟨l3, l4⟩ := ok_lens hg p1 q1
    have HOf := Hd.mk hf
    have HOg := Hd.mk hg
    have HB0 : Hd (f.d.val ≠ 0) := ⟨by have := RQ.ok_pos hf; omega⟩
    have HD0 : Hd (g.d.val ≠ 0) := ⟨by have := RQ.ok_pos hg; omega⟩
    have HOK : Hd ([f, g].all RQ.ok = true) := ⟨by rw [all_rq2]; exact hok⟩
    have bD : ln (f.d.val * g.d.val).natAbs ≤ 2000 := Nat.le_trans (ln_zmul _ _) (by omega)
    have bN : ln (f.n.val * g.n.val).natAbs ≤ 2000 := Nat.le_trans (ln_zmul _ _) (by omega)
    have HL1 : Hd (ln (qn (f.n.val * g.n.val) (f.d.val * g.d.val)).natAbs ≤ 100000) := ⟨Nat.le_trans (ln_qn _ _) (by omega)⟩
    have HL2 : Hd (ln (qd (f.n.val * g.n.val) (f.d.val * g.d.val)).natAbs ≤ 100000) := ⟨Nat.le_trans (ln_qd _ _) (by omega)⟩
    have e1 : rqn f g (f.n.val * g.n.val) (f.d.val * g.d.val) = fitn (qn (f.n.val * g.n.val) (f.d.val * g.d.val)) (qd (f.n.val * g.n.val) (f.d.val * g.d.val)) := if_pos hok
    have e2 : rqd f g (f.n.val * g.n.val) (f.d.val * g.d.val) = fitd (qn (f.n.val * g.n.val) (f.d.val * g.d.val)) (qd (f.n.val * g.n.val) (f.d.val * g.d.val)) := if_pos hok
    have e3 : rqe f g (f.n.val * g.n.val) (f.d.val * g.d.val) = fitc (qn (f.n.val * g.n.val) (f.d.val * g.d.val)) (qd (f.n.val * g.n.val) (f.d.val * g.d.val)) := if_pos hok
    rw [e1, e2, e3]
    clear e1 e2 e3 hok hf hg
    go_enter Try.func61, Try.ntmps61
    go_upto_region 1 with fail
    obtain ⟨W0, hW0⟩ : ∃ W : World, W = ((w.alloc (.cells #[u0, x0, y0, z0] 58)).alloc (.cells #[u1, x1, y1, z1] 58)).alloc (.cells #[Value.bool false, Value.slice none 0 0, Value.bool false, Value.slice none 0 0] 58) := ⟨_, rfl⟩
    rw [← hW0]
    obtain ⟨he, hb⟩ := env_three (cp2 p0 q0) (cp2 p1 q1) (cp2 (cp0 _) (cp0 _)) hW0
    have HE := Hd.mk he
    have HB := Hd.mk hb
    clear he hb hW0
    refine wp_region_vd 8 [6, 7, 8, 9, 10, 11, 12, 13] [2, 3, 6, 7] [] 70 [.bool false, .slice none 0 0] [isL [rC f.n, rC f.d], isV (.bool true), isV (.bool false), isV (.bool false), isL [rC g.n, rC g.d], isV (.bool true), isV (.bool false), isV (.bool false)] (by rfl) alloc_whole ?_ ?_
    · intro i hi hA aa wx hb hs hd
      match i, hi, hA with
      | 0, _, _ => exact .inl ⟨rfl, op_ldR rfl rfl (hs 2 rfl) ((HE.out.to hb).get 0 rfl)⟩
      | 1, _, _ => exact .inl ⟨rfl, wp_b HOf.out (op_call1 rfl rfl Try.call50 (ValidRat_got f _ _ (hd 0 rfl)))⟩
      | 2, _, _ => exact .inl ⟨rfl, ⟨_, op_not rfl (hd 1 rfl), rfl⟩⟩
      | 3, _, _ => exact .inl ⟨rfl, op_mv rfl (hd 2 rfl)⟩
      | 4, _, _ => exact .inl ⟨⟨rfl, hd 3 rfl⟩, op_ldR rfl rfl (hs 3 rfl) ((HE.out.to hb).get 1 rfl)⟩
      | 5, _, _ => exact .inl ⟨⟨rfl, hd 3 rfl⟩, wp_b HOg.out (op_call1 rfl rfl Try.call50 (ValidRat_got g _ _ (hd 4 rfl)))⟩
      | 6, _, _ => exact .inl ⟨⟨rfl, hd 3 rfl⟩, ⟨_, op_not rfl (hd 5 rfl), rfl⟩⟩
      | 7, _, _ => exact .inl ⟨rfl, ⟨_, op_pickF rfl (hd 3 rfl) (hd 6 rfl), rfl⟩⟩
      | i + 8, h, _ => omega
    · intro vs X1 hb hv hal hne
      replace HB := Hd.mk (bel_then HB.out hb)
      replace HE : Hd (Env X1 [⟨w.heap.size, 58, [rC f.n, rC f.d]⟩, ⟨w.heap.size + 1, 58, [rC g.n, rC g.d]⟩, ⟨w.heap.size + 1 + 1, 58, [zC 0, zC 0]⟩]) := ⟨HE.out.to hb⟩
      have e13 : vs 13 = .bool false := hv 7 (by decide) rfl
      simp only [putAll, List.foldl_cons, List.foldl_nil, Act.put, List.setIfInBounds_toArray, List.set_cons_succ, List.set_cons_zero, List.drop_succ_cons, List.drop_zero, e13]
      generalize vs 6 = s6
      generalize vs 7 = s7
      generalize vs 8 = s8
      generalize vs 9 = s9
      generalize vs 10 = s10
      generalize vs 11 = s11
      generalize vs 12 = s12
      clear hv hal hne hb
      go_upto_region 3 with fail
      refine wp_region_vs 8 [15, 16, 17, 18, 19, 20, 21, 22] [6, 7] [] 70 [.bool false, .slice none 0 0] [isL [rC f.n, rC f.d], isL [zC f.n.val, zC f.d.val], isL [rC g.n, rC g.d], isL [zC g.n.val, zC g.d.val], isL [zC (qn (f.n.val * g.n.val) (f.d.val * g.d.val)), zC (qd (f.n.val * g.n.val) (f.d.val * g.d.val))], isP (isL [zC (fitn (qn (f.n.val * g.n.val) (f.d.val * g.d.val)) (qd (f.n.val * g.n.val) (f.d.val * g.d.val))), zC (fitd (qn (f.n.val * g.n.val) (f.d.val * g.d.val)) (qd (f.n.val * g.n.val) (f.d.val * g.d.val)))]) (isV (.int .i64 (fitc (qn (f.n.val * g.n.val) (f.d.val * g.d.val)) (qd (f.n.val * g.n.val) (f.d.val * g.d.val))))), isL [zC (fitn (qn (f.n.val * g.n.val) (f.d.val * g.d.val)) (qd (f.n.val * g.n.val) (f.d.val * g.d.val))), zC (fitd (qn (f.n.val * g.n.val) (f.d.val * g.d.val)) (qd (f.n.val * g.n.val) (f.d.val * g.d.val)))], isV (.int .i64 (fitc (qn (f.n.val * g.n.val) (f.d.val * g.d.val)) (qd (f.n.val * g.n.val) (f.d.val * g.d.val))))] (by kernel_rfl) (by kernel_rfl) (by kernel_rfl) (by rfl) alloc_whole (fun d v c a w h => by cases d <;> exact h) ?_ ?_
      · intro i hi hA aa wx hb hs hd
        match i, hi, hA with
        | 0, _, _ => exact op_ldR rfl rfl (hs 2 rfl) ((HE.out.to hb).get 0 rfl)
        | 1, _, _ => exact op_call1 rfl rfl Try.call109 (OfRat_got f HOf.out _ _ (hd 0 rfl))
        | 2, _, _ => exact op_ldR rfl rfl (hs 3 rfl) ((HE.out.to hb).get 1 rfl)
        | 3, _, _ => exact op_call1 rfl rfl Try.call109 (OfRat_got g HOg.out _ _ (hd 2 rfl))
        | 4, _, _ => exact op_call2 rfl rfl Try.call113 (rTimesQ_got f.n.val f.d.val g.n.val g.d.val HB0.out HD0.out (by omega) (by omega) (by omega) (by omega) _ _ _ (hd 1 rfl) (hd 3 rfl))
        | 5, _, _ => exact op_call1 rfl rfl Try.call110 (rratio_got (qn (f.n.val * g.n.val) (f.d.val * g.d.val)) (qd (f.n.val * g.n.val) (f.d.val * g.d.val)) HL1.out HL2.out _ _ (hd 4 rfl))
        | 6, _, _ => exact op_fst rfl (hd 5 rfl)
        | 7, _, _ => exact op_snd rfl (hd 5 rfl)
        | i + 8, h, _ => omega
      · intro vs X2 hb hv hal hne
        replace HB := Hd.mk (bel_then HB.out hb)
        replace HE : Hd (Env X2 [⟨w.heap.size, 58, [rC f.n, rC f.d]⟩, ⟨w.heap.size + 1, 58, [rC g.n, rC g.d]⟩, ⟨w.heap.size + 1 + 1, 58, [zC 0, zC 0]⟩]) := ⟨HE.out.to hb⟩
        have t21 : (isL [zC (fitn (qn (f.n.val * g.n.val) (f.d.val * g.d.val)) (qd (f.n.val * g.n.val) (f.d.val * g.d.val))), zC (fitd (qn (f.n.val * g.n.val) (f.d.val * g.d.val)) (qd (f.n.val * g.n.val) (f.d.val * g.d.val)))]).p (vs 21) X2 := hv 6 (by decide) rfl
        obtain ⟨u21, y21, p21, q21, e21, c21, k21⟩ := isL_two.1 t21
        have e22 : vs 22 = .int .i64 (fitc (qn (f.n.val * g.n.val) (f.d.val * g.d.val)) (qd (f.n.val * g.n.val) (f.d.val * g.d.val))) := hv 7 (by decide) rfl
        simp only [putAll, List.foldl_cons, List.foldl_nil, Act.put, List.setIfInBounds_toArray, List.set_cons_succ, List.set_cons_zero, List.drop_succ_cons, List.drop_zero, e21, e22]
        generalize vs 15 = s15
        generalize vs 16 = s16
        generalize vs 17 = s17
        generalize vs 18 = s18
        generalize vs 19 = s19
        generalize vs 20 = s20
        refine wpList_st rfl rfl rfl rfl rfl (sto_R c21 k21 (HE.out.get 2 rfl)) ?_
        have HE' : Env (putAt (putAt X2 (w.heap.size + 1 + 1) 0 u21 y21) (w.heap.size + 1 + 1) 2 p21 q21) [⟨w.heap.size, 58, [rC f.n, rC f.d]⟩, ⟨w.heap.size + 1, 58, [rC g.n, rC g.d]⟩, ⟨w.heap.size + 1 + 1, 58, [zC (fitn (qn (f.n.val * g.n.val) (f.d.val * g.d.val)) (qd (f.n.val * g.n.val) (f.d.val * g.d.val))), zC (fitd (qn (f.n.val * g.n.val) (f.d.val * g.d.val)) (qd (f.n.val * g.n.val) (f.d.val * g.d.val)))]⟩] := HE.out.put4 2 rfl c21 k21
        have HB' := below_put4 (u := u21) (v := y21) (u' := p21) (v' := q21) HB.out (show w.heap.size ≤ w.heap.size + 1 + 1 from by omega)
        generalize putAt (putAt X2 (w.heap.size + 1 + 1) 0 u21 y21) (w.heap.size + 1 + 1) 2 p21 q21 = X3 at *
        replace HE := Hd.mk HE'
        replace HB := Hd.mk HB'
        clear HE' HB'
        clear hv hal hne hb
        go_wp2_with fail
        obtain ⟨r0a, r0b, r0c, r0d, k0a, k0b, k0c, k0d, h0a, h0b⟩ := (HE.out.get 2 rfl).cells2
        refine bodyPost_ret (v := .tuple #[.agg #[r0a, r0b, r0c, r0d], .int .i64 (fitc (qn (f.n.val * g.n.val) (f.d.val * g.d.val)) (qd (f.n.val * g.n.val) (f.d.val * g.d.val)))]) (by simp [results, Try.results61, go_sem, k0a, k0b, k0c, k0d]) rfl ?_
        exact ⟨_, rfl, HB.out, _, _, rfl, isL_two.2 ⟨_, _, _, _, rfl, h0a, h0b⟩, rfl⟩
  · have hno : (f.ok && g.ok) = false := by simpa using hok
    have e1 : rqn f g (f.n.val * g.n.val) (f.d.val * g.d.val) = 0 := if_neg hok
    have e2 : rqd f g (f.n.val * g.n.val) (f.d.val * g.d.val) = 0 := if_neg hok
    have e3 : rqe f g (f.n.val * g.n.val) (f.d.val * g.d.val) = 2 := if_neg hok
    rw [e1, e2, e3]
    clear e1 e2 e3 hok
    by_cases hf : f.ok = true
    · have hg : g.ok = false := by rw [hf] at hno; simpa using hno
      have HOf := Hd.mk hf
      have HOg := Hd.mk hg
      clear hf hg hno
      go_enter Try.func61, Try.ntmps61
      go_upto_region 1 with fail
      obtain ⟨W0, hW0⟩ : ∃ W : World, W = ((w.alloc (.cells #[u0, x0, y0, z0] 58)).alloc (.cells #[u1, x1, y1, z1] 58)).alloc (.cells #[Value.bool false, Value.slice none 0 0, Value.bool false, Value.slice none 0 0] 58) := ⟨_, rfl⟩
      rw [← hW0]
      obtain ⟨he, hb⟩ := env_three (cp2 p0 q0) (cp2 p1 q1) (cp2 (cp0 _) (cp0 _)) hW0
      have HE := Hd.mk he
      have HB := Hd.mk hb
      clear he hb hW0
      refine wp_region_vd 8 [6, 7, 8, 9, 10, 11, 12, 13] [2, 3, 6, 7] [] 70 [.bool false, .slice none 0 0] [isL [rC f.n, rC f.d], isV (.bool true), isV (.bool false), isV (.bool false), isL [rC g.n, rC g.d], isV (.bool false), isV (.bool true), isV (.bool true)] (by rfl) alloc_whole ?_ ?_
      · intro i hi hA aa wx hb hs hd
        match i, hi, hA with
        | 0, _, _ => exact .inl ⟨rfl, op_ldR rfl rfl (hs 2 rfl) ((HE.out.to hb).get 0 rfl)⟩
        | 1, _, _ => exact .inl ⟨rfl, wp_b HOf.out (op_call1 rfl rfl Try.call50 (ValidRat_got f _ _ (hd 0 rfl)))⟩
        | 2, _, _ => exact .inl ⟨rfl, ⟨_, op_not rfl (hd 1 rfl), rfl⟩⟩
        | 3, _, _ => exact .inl ⟨rfl, op_mv rfl (hd 2 rfl)⟩
        | 4, _, _ => exact .inl ⟨⟨rfl, hd 3 rfl⟩, op_ldR rfl rfl (hs 3 rfl) ((HE.out.to hb).get 1 rfl)⟩
        | 5, _, _ => exact .inl ⟨⟨rfl, hd 3 rfl⟩, wp_b HOg.out (op_call1 rfl rfl Try.call50 (ValidRat_got g _ _ (hd 4 rfl)))⟩
        | 6, _, _ => exact .inl ⟨⟨rfl, hd 3 rfl⟩, ⟨_, op_not rfl (hd 5 rfl), rfl⟩⟩
        | 7, _, _ => exact .inl ⟨rfl, ⟨_, op_pickF rfl (hd 3 rfl) (hd 6 rfl), rfl⟩⟩
        | i + 8, h, _ => omega
      · intro vs X1 hb hv hal hne
        replace HB := Hd.mk (bel_then HB.out hb)
        replace HE : Hd (Env X1 [⟨w.heap.size, 58, [rC f.n, rC f.d]⟩, ⟨w.heap.size + 1, 58, [rC g.n, rC g.d]⟩, ⟨w.heap.size + 1 + 1, 58, [zC 0, zC 0]⟩]) := ⟨HE.out.to hb⟩
        have e13 : vs 13 = .bool true := hv 7 (by decide) rfl
        simp only [putAll, List.foldl_cons, List.foldl_nil, Act.put, List.setIfInBounds_toArray, List.set_cons_succ, List.set_cons_zero, List.drop_succ_cons, List.drop_zero, e13]
        generalize vs 6 = s6
        generalize vs 7 = s7
        generalize vs 8 = s8
        generalize vs 9 = s9
        generalize vs 10 = s10
        generalize vs 11 = s11
        generalize vs 12 = s12
        clear hv hal hne hb
        go_upto_region 2 with fail
        refine wp_region_vd 1 [14] [0] [] 70 [.bool false, .slice none 0 0] [isL [zC 0, zC 0]] (by rfl) alloc_whole ?_ ?_
        · intro i hi hA aa wx hb hs hd
          match i, hi, hA with
          | 0, _, _ => exact .inl ⟨rfl, op_b0R rfl⟩
          | i + 1, h, _ => omega
        · intro vs X2 hb hv hal hne
          replace HB := Hd.mk (bel_then HB.out hb)
          replace HE : Hd (Env X2 [⟨w.heap.size, 58, [rC f.n, rC f.d]⟩, ⟨w.heap.size + 1, 58, [rC g.n, rC g.d]⟩, ⟨w.heap.size + 1 + 1, 58, [zC 0, zC 0]⟩]) := ⟨HE.out.to hb⟩
          have t14 : (isL [zC 0, zC 0]).p (vs 14) X2 := hv 0 (by decide) rfl
          obtain ⟨u14, y14, p14, q14, e14, c14, k14⟩ := isL_two.1 t14
          simp only [putAll, List.foldl_cons, List.foldl_nil, Act.put, List.setIfInBounds_toArray, List.set_cons_succ, List.set_cons_zero, List.drop_succ_cons, List.drop_zero, e14]
          refine wpList_st rfl rfl rfl rfl rfl (sto_R c14 k14 (HE.out.get 2 rfl)) ?_
          have HE' : Env (putAt (putAt X2 (w.heap.size + 1 + 1) 0 u14 y14) (w.heap.size + 1 + 1) 2 p14 q14) [⟨w.heap.size, 58, [rC f.n, rC f.d]⟩, ⟨w.heap.size + 1, 58, [rC g.n, rC g.d]⟩, ⟨w.heap.size + 1 + 1, 58, [zC 0, zC 0]⟩] := HE.out.put4 2 rfl c14 k14
          have HB' := below_put4 (u := u14) (v := y14) (u' := p14) (v' := q14) HB.out (show w.heap.size ≤ w.heap.size + 1 + 1 from by omega)
          generalize putAt (putAt X2 (w.heap.size + 1 + 1) 0 u14 y14) (w.heap.size + 1 + 1) 2 p14 q14 = X3 at *
          replace HE := Hd.mk HE'
          replace HB := Hd.mk HB'
          clear HE' HB'
          clear hv hal hne hb
          go_wp2_with fail
          obtain ⟨r0a, r0b, r0c, r0d, k0a, k0b, k0c, k0d, h0a, h0b⟩ := (HE.out.get 2 rfl).cells2
          refine bodyPost_ret (v := .tuple #[.agg #[r0a, r0b, r0c, r0d], .int .i64 2]) (by simp [results, Try.results61, go_sem, k0a, k0b, k0c, k0d]) rfl ?_
          exact ⟨_, rfl, HB.out, _, _, rfl, isL_two.2 ⟨_, _, _, _, rfl, h0a, h0b⟩, rfl⟩
    · have hf' : f.ok = false := by simpa using hf
      have HOf := Hd.mk hf'
      clear hf hf' hno
      go_enter Try.func61, Try.ntmps61
      go_upto_region 1 with fail
      obtain ⟨W0, hW0⟩ : ∃ W : World, W = ((w.alloc (.cells #[u0, x0, y0, z0] 58)).alloc (.cells #[u1, x1, y1, z1] 58)).alloc (.cells #[Value.bool false, Value.slice none 0 0, Value.bool false, Value.slice none 0 0] 58) := ⟨_, rfl⟩
      rw [← hW0]
      obtain ⟨he, hb⟩ := env_three (cp2 p0 q0) (cp2 p1 q1) (cp2 (cp0 _) (cp0 _)) hW0
      have HE := Hd.mk he
      have HB := Hd.mk hb
      clear he hb hW0
      refine wp_region_vd 8 [6, 7, 8, 9, 10, 11, 12, 13] [2, 3, 7] [] 70 [.bool false, .slice none 0 0] [isL [rC f.n, rC f.d], isV (.bool false), isV (.bool true), isV (.bool true), SP.any, SP.any, SP.any, isV (.bool true)] (by rfl) alloc_whole ?_ ?_
      · intro i hi hA aa wx hb hs hd
        match i, hi, hA with
        | 0, _, _ => exact .inl ⟨rfl, op_ldR rfl rfl (hs 2 rfl) ((HE.out.to hb).get 0 rfl)⟩
        | 1, _, _ => exact .inl ⟨rfl, wp_b HOf.out (op_call1 rfl rfl Try.call50 (ValidRat_got f _ _ (hd 0 rfl)))⟩
        | 2, _, _ => exact .inl ⟨rfl, ⟨_, op_not rfl (hd 1 rfl), rfl⟩⟩
        | 3, _, _ => exact .inl ⟨rfl, op_mv rfl (hd 2 rfl)⟩
        | 4, _, _ => exact .inr ⟨⟨rfl, hd 3 rfl⟩, trivial⟩
        | 5, _, _ => exact .inr ⟨⟨rfl, hd 3 rfl⟩, trivial⟩
        | 6, _, _ => exact .inr ⟨⟨rfl, hd 3 rfl⟩, trivial⟩
        | 7, _, _ => exact .inl ⟨rfl, ⟨_, op_pickT rfl (hd 3 rfl) rfl, rfl⟩⟩
        | i + 8, h, _ => omega
      · intro vs X1 hb hv hal hne
        replace HB := Hd.mk (bel_then HB.out hb)
        replace HE : Hd (Env X1 [⟨w.heap.size, 58, [rC f.n, rC f.d]⟩, ⟨w.heap.size + 1, 58, [rC g.n, rC g.d]⟩, ⟨w.heap.size + 1 + 1, 58, [zC 0, zC 0]⟩]) := ⟨HE.out.to hb⟩
        have e13 : vs 13 = .bool true := hv 7 (by decide) rfl
        simp only [putAll, List.foldl_cons, List.foldl_nil, Act.put, List.setIfInBounds_toArray, List.set_cons_succ, List.set_cons_zero, List.drop_succ_cons, List.drop_zero, e13]
        generalize vs 6 = s6
        generalize vs 7 = s7
        generalize vs 8 = s8
        generalize vs 9 = s9
        generalize vs 10 = s10
        generalize vs 11 = s11
        generalize vs 12 = s12
        clear hv hal hne hb
        go_upto_region 2 with fail
        refine wp_region_vd 1 [14] [0] [] 70 [.bool false, .slice none 0 0] [isL [zC 0, zC 0]] (by rfl) alloc_whole ?_ ?_
        · intro i hi hA aa wx hb hs hd
          match i, hi, hA with
          | 0, _, _ => exact .inl ⟨rfl, op_b0R rfl⟩
          | i + 1, h, _ => omega
        · intro vs X2 hb hv hal hne
          replace HB := Hd.mk (bel_then HB.out hb)
          replace HE : Hd (Env X2 [⟨w.heap.size, 58, [rC f.n, rC f.d]⟩, ⟨w.heap.size + 1, 58, [rC g.n, rC g.d]⟩, ⟨w.heap.size + 1 + 1, 58, [zC 0, zC 0]⟩]) := ⟨HE.out.to hb⟩
          have t14 : (isL [zC 0, zC 0]).p (vs 14) X2 := hv 0 (by decide) rfl
          obtain ⟨u14, y14, p14, q14, e14, c14, k14⟩ := isL_two.1 t14
          simp only [putAll, List.foldl_cons, List.foldl_nil, Act.put, List.setIfInBounds_toArray, List.set_cons_succ, List.set_cons_zero, List.drop_succ_cons, List.drop_zero, e14]
          refine wpList_st rfl rfl rfl rfl rfl (sto_R c14 k14 (HE.out.get 2 rfl)) ?_
          have HE' : Env (putAt (putAt X2 (w.heap.size + 1 + 1) 0 u14 y14) (w.heap.size + 1 + 1) 2 p14 q14) [⟨w.heap.size, 58, [rC f.n, rC f.d]⟩, ⟨w.heap.size + 1, 58, [rC g.n, rC g.d]⟩, ⟨w.heap.size + 1 + 1, 58, [zC 0, zC 0]⟩] := HE.out.put4 2 rfl c14 k14
          have HB' := below_put4 (u := u14) (v := y14) (u' := p14) (v' := q14) HB.out (show w.heap.size ≤ w.heap.size + 1 + 1 from by omega)
          generalize putAt (putAt X2 (w.heap.size + 1 + 1) 0 u14 y14) (w.heap.size + 1 + 1) 2 p14 q14 = X3 at *
          replace HE := Hd.mk HE'
          replace HB := Hd.mk HB'
          clear HE' HB'
          clear hv hal hne hb
          go_wp2_with fail
          obtain ⟨r0a, r0b, r0c, r0d, k0a, k0b, k0c, k0d, h0a, h0b⟩ := (HE.out.get 2 rfl).cells2
          refine bodyPost_ret (v := .tuple #[.agg #[r0a, r0b, r0c, r0d], .int .i64 2]) (by simp [results, Try.results61, go_sem, k0a, k0b, k0c, k0d]) rfl ?_
          exact ⟨_, rfl, HB.out, _, _, rfl, isL_two.2 ⟨_, _, _, _, rfl, h0a, h0b⟩, rfl⟩
set_option maxRecDepth 100000 in
set_option maxHeartbeats 1000000 in
theorem twodiv_got (f g : RQ) (hc0 : (f.ok && g.ok) = true → g.n.val ≠ 0) (v0 v1 : Value) (w : World) (h0 : (isL [rC f.n, rC f.d]).p v0 w) (h1 : (isL [rC g.n, rC g.d]).p v1 w) :
    Calls Try.prog 99 #[v0, v1, .func (.func 105) #[] #[]] w (Got w (isP (isL [zC (rqn f g (f.n.val * g.d.val) (f.d.val * g.n.val)), zC (rqd f g (f.n.val * g.d.val) (f.d.val * g.n.val))]) (isV (.int .i64 (rqe f g (f.n.val * g.d.val) (f.d.val * g.n.val))))).p) := by
  obtain ⟨u0, x0, y0, z0, rfl, p0, q0⟩ := isL_two.1 h0
  obtain ⟨u1, x1, y1, z1, rfl, p1, q1⟩ := isL_two.1 h1
  clear h0 h1
  by_cases hok : (f.ok && g.ok) = true
  · have hf : f.ok = true := by simp at hok; exact hok.1
    have hg : g.ok = true := by simp at hok; exact hok.2
    obtain ⟨l1, l2⟩ := ok_lens hf p0 q0
    obtain ⟨l3, l4⟩ := ok_lens hg p1 q1
    have HOf := Hd.mk hf
    have HOg := Hd.mk hg
    have HB0 : Hd (f.d.val ≠ 0) := ⟨by have := RQ.ok_pos hf; omega⟩
    have HD0 : Hd (g.d.val ≠ 0) := ⟨by have := RQ.ok_pos hg; omega⟩
    have HOK : Hd ([f, g].all RQ.ok = true) := ⟨by rw [all_rq2]; exact hok⟩
    have HC0 := Hd.mk (hc0 hok)
    clear hc0
    have bD : ln (f.d.val * g.n.val).natAbs ≤ 2000 := Nat.le_trans (ln_zmul _ _) (by omega)
    have bN : ln (f.n.val * g.d.val).natAbs ≤ 2000 := Nat.le_trans (ln_zmul _ _) (by omega)
    have HL1 : Hd (ln (qn (f.n.val * g.d.val) (f.d.val * g.n.val)).natAbs ≤ 100000) := ⟨Nat.le_trans (ln_qn _ _) (by omega)⟩
    have HL2 : Hd (ln (qd (f.n.val * g.d.val) (f.d.val * g.n.val)).natAbs ≤ 100000) := ⟨Nat.le_trans (ln_qd _ _) (by omega)⟩
    have e1 : rqn f g (f.n.val * g.d.val) (f.d.val * g.n.val) = fitn (qn (f.n.val * g.d.val) (f.d.val * g.n.val)) (qd (f.n.val * g.d.val) (f.d.val * g.n.val)) := if_pos hok
    have e2 : rqd f g (f.n.val * g.d.val) (f.d.val * g.n.val) = fitd (qn (f.n.val * g.d.val) (f.d.val * g.n.val)) (qd (f.n.val * g.d.val) (f.d.val * g.n.val)) := if_pos hok
    have e3 : rqe f g (f.n.val * g.d.val) (f.d.val * g.n.val) = fitc (qn (f.n.val * g.d.val) (f.d.val * g.n.val)) (qd (f.n.val * g.d.val) (f.d.val * g.n.val)) := if_pos hok
    rw [e1, e2, e3]
    clear e1 e2 e3 hok hf hg
    go_enter Try.func99, Try.ntmps99
    go_upto_region 1 with fail
    obtain ⟨W0, hW0⟩ : ∃ W : World, W = ((w.alloc (.cells #[u0, x0, y0, z0] 58)).alloc (.cells #[u1, x1, y1, z1] 58)).alloc (.cells #[Value.bool false, Value.slice none 0 0, Value.bool false, Value.slice none 0 0] 58) := ⟨_, rfl⟩
    rw [← hW0]
    obtain ⟨he, hb⟩ := env_three (cp2 p0 q0) (cp2 p1 q1) (cp2 (cp0 _) (cp0 _)) hW0
    have HE := Hd.mk he
    have HB := Hd.mk hb
    clear he hb hW0
    refine wp_region_vd 5 [8, 9, 10, 11, 12] [4] [] 70 [.bool false, .slice none 0 0] [isL [rC f.n, rC f.d], isL [rC g.n, rC g.d], isRats [f, g], isV (.bool true), isV (.bool false)] (by rfl) alloc_whole ?_ ?_
    · intro i hi hA aa wx hb hs hd
      match i, hi, hA with
      | 0, _, _ => exact .inl ⟨rfl, op_ldR rfl rfl (hs 3 rfl) ((HE.out.to hb).get 0 rfl)⟩
      | 1, _, _ => exact .inl ⟨rfl, op_ldR rfl rfl (hs 4 rfl) ((HE.out.to hb).get 1 rfl)⟩
      | 2, _, _ => exact .inl ⟨rfl, op_bsR2 rfl rfl (hd 0 rfl) (hd 1 rfl)⟩
      | 3, _, _ => exact .inl ⟨rfl, wp_b HOK.out (op_call1 rfl rfl Try.call102 (validRats_got [f, g] (by show 2 ≤ 2; omega) _ _ (hd 2 rfl)))⟩
      | 4, _, _ => exact .inl ⟨rfl, ⟨_, op_not rfl (hd 3 rfl), rfl⟩⟩
      | i + 5, h, _ => omega
    · intro vs X1 hb hv hal hne
      replace HB := Hd.mk (bel_then HB.out hb)
      replace HE : Hd (Env X1 [⟨w.heap.size, 58, [rC f.n, rC f.d]⟩, ⟨w.heap.size + 1, 58, [rC g.n, rC g.d]⟩, ⟨w.heap.size + 1 + 1, 58, [zC 0, zC 0]⟩]) := ⟨HE.out.to hb⟩
      have e12 : vs 12 = .bool false := hv 4 (by decide) rfl
      simp only [putAll, List.foldl_cons, List.foldl_nil, Act.put, List.setIfInBounds_toArray, List.set_cons_succ, List.set_cons_zero, List.drop_succ_cons, List.drop_zero, e12]
      generalize vs 8 = s8
      generalize vs 9 = s9
      generalize vs 10 = s10
      generalize vs 11 = s11
      clear hv hal hne hb
      go_upto_region 3 with fail
      refine wp_region_vs 9 [14, 15, 16, 17, 18, 19, 20, 21, 22] [0, 7, 8] [] 70 [.bool false, .slice none 0 0] [isV (.func (.func 105) #[] #[]), isL [rC f.n, rC f.d], isL [zC f.n.val, zC f.d.val], isL [rC g.n, rC g.d], isL [zC g.n.val, zC g.d.val], isL [zC (qn (f.n.val * g.d.val) (f.d.val * g.n.val)), zC (qd (f.n.val * g.d.val) (f.d.val * g.n.val))], isP (isL [zC (fitn (qn (f.n.val * g.d.val) (f.d.val * g.n.val)) (qd (f.n.val * g.d.val) (f.d.val * g.n.val))), zC (fitd (qn (f.n.val * g.d.val) (f.d.val * g.n.val)) (qd (f.n.val * g.d.val) (f.d.val * g.n.val)))]) (isV (.int .i64 (fitc (qn (f.n.val * g.d.val) (f.d.val * g.n.val)) (qd (f.n.val * g.d.val) (f.d.val * g.n.val))))), isL [zC (fitn (qn (f.n.val * g.d.val) (f.d.val * g.n.val)) (qd (f.n.val * g.d.val) (f.d.val * g.n.val))), zC (fitd (qn (f.n.val * g.d.val) (f.d.val * g.n.val)) (qd (f.n.val * g.d.val) (f.d.val * g.n.val)))], isV (.int .i64 (fitc (qn (f.n.val * g.d.val) (f.d.val * g.n.val)) (qd (f.n.val * g.d.val) (f.d.val * g.n.val))))] (by kernel_rfl) (by kernel_rfl) (by kernel_rfl) (by rfl) alloc_whole (fun d v c a w h => by cases d <;> exact h) ?_ ?_
      · intro i hi hA aa wx hb hs hd
        match i, hi, hA with
        | 0, _, _ => exact op_mv rfl (hs 2 rfl)
        | 1, _, _ => exact op_ldR rfl rfl (hs 3 rfl) ((HE.out.to hb).get 0 rfl)
        | 2, _, _ => exact op_call1 rfl rfl Try.call103 (ratOf_got f HOf.out _ _ (hd 1 rfl))
        | 3, _, _ => exact op_ldR rfl rfl (hs 4 rfl) ((HE.out.to hb).get 1 rfl)
        | 4, _, _ => exact op_call1 rfl rfl Try.call103 (ratOf_got g HOg.out _ _ (hd 3 rfl))
        | 5, _, _ => exact op_callv2 (hd 0 rfl) rfl rfl Try.call105 (qdiv_got f.n.val f.d.val g.n.val g.d.val _ _ _ (hd 2 rfl) (hd 4 rfl) HB0.out HC0.out (by omega) (by omega) (by omega) (by omega))
        | 6, _, _ => exact op_call1 rfl rfl Try.call131 (qfits_got (qn (f.n.val * g.d.val) (f.d.val * g.n.val)) (qd (f.n.val * g.d.val) (f.d.val * g.n.val)) HL1.out HL2.out _ _ (hd 5 rfl))
        | 7, _, _ => exact op_fst rfl (hd 6 rfl)
        | 8, _, _ => exact op_snd rfl (hd 6 rfl)
        | i + 9, h, _ => omega
      · intro vs X2 hb hv hal hne
        replace HB := Hd.mk (bel_then HB.out hb)
        replace HE : Hd (Env X2 [⟨w.heap.size, 58, [rC f.n, rC f.d]⟩, ⟨w.heap.size + 1, 58, [rC g.n, rC g.d]⟩, ⟨w.heap.size + 1 + 1, 58, [zC 0, zC 0]⟩]) := ⟨HE.out.to hb⟩
        have t21 : (isL [zC (fitn (qn (f.n.val * g.d.val) (f.d.val * g.n.val)) (qd (f.n.val * g.d.val) (f.d.val * g.n.val))), zC (fitd (qn (f.n.val * g.d.val) (f.d.val * g.n.val)) (qd (f.n.val * g.d.val) (f.d.val * g.n.val)))]).p (vs 21) X2 := hv 7 (by decide) rfl
        obtain ⟨u21, y21, p21, q21, e21, c21, k21⟩ := isL_two.1 t21
        have e22 : vs 22 = .int .i64 (fitc (qn (f.n.val * g.d.val) (f.d.val * g.n.val)) (qd (f.n.val * g.d.val) (f.d.val * g.n.val))) := hv 8 (by decide) rfl
        simp only [putAll, List.foldl_cons, List.foldl_nil, Act.put, List.setIfInBounds_toArray, List.set_cons_succ, List.set_cons_zero, List.drop_succ_cons, List.drop_zero, e21, e22]
        generalize vs 14 = s14
        generalize vs 15 = s15
        generalize vs 16 = s16
        generalize vs 17 = s17
        generalize vs 18 = s18
        generalize vs 19 = s19
        generalize vs 20 = s20
        refine wpList_st rfl rfl rfl rfl rfl (sto_R c21 k21 (HE.out.get 2 rfl)) ?_
        have HE' : Env (putAt (putAt X2 (w.heap.size + 1 + 1) 0 u21 y21) (w.heap.size + 1 + 1) 2 p21 q21) [⟨w.heap.size, 58, [rC f.n, rC f.d]⟩, ⟨w.heap.size + 1, 58, [rC g.n, rC g.d]⟩, ⟨w.heap.size + 1 + 1, 58, [zC (fitn (qn (f.n.val * g.d.val) (f.d.val * g.n.val)) (qd (f.n.val * g.d.val) (f.d.val * g.n.val))), zC (fitd (qn (f.n.val * g.d.val) (f.d.val * g.n.val)) (qd (f.n.val * g.d.val) (f.d.val * g.n.val)))]⟩] := HE.out.put4 2 rfl c21 k21
        have HB' := below_put4 (u := u21) (v := y21) (u' := p21) (v' := q21) HB.out (show w.heap.size ≤ w.heap.size + 1 + 1 from by omega)
        generalize putAt (putAt X2 (w.heap.size + 1 + 1) 0 u21 y21) (w.heap.size + 1 + 1) 2 p21 q21 = X3 at *
        replace HE := Hd.mk HE'
        replace HB := Hd.mk HB'
        clear HE' HB'
        clear hv hal hne hb
        go_wp2_with fail
        obtain ⟨r0a, r0b, r0c, r0d, k0a, k0b, k0c, k0d, h0a, h0b⟩ := (HE.out.get 2 rfl).cells2
        refine bodyPost_ret (v := .tuple #[.agg #[r0a, r0b, r0c, r0d], .int .i64 (fitc (qn (f.n.val * g.d.val) (f.d.val * g.n.val)) (qd (f.n.val * g.d.val) (f.d.val * g.n.val)))]) (by simp [results, Try.results99, go_sem, k0a, k0b, k0c, k0d]) rfl ?_
        exact ⟨_, rfl, HB.out, _, _, rfl, isL_two.2 ⟨_, _, _, _, rfl, h0a, h0b⟩, rfl⟩
  · have hno : (f.ok && g.ok) = false := by simpa using hok
    have HOK : Hd ([f, g].all RQ.ok = false) := ⟨by rw [all_rq2]; exact hno⟩
    have e1 : rqn f g (f.n.val * g.d.val) (f.d.val * g.n.val) = 0 := if_neg hok
    have e2 : rqd f g (f.n.val * g.d.val) (f.d.val * g.n.val) = 0 := if_neg hok
    have e3 : rqe f g (f.n.val * g.d.val) (f.d.val * g.n.val) = 2 := if_neg hok
    rw [e1, e2, e3]
    clear e1 e2 e3 hok hno hc0
    go_enter Try.func99, Try.ntmps99
    go_upto_region 1 with fail
    obtain ⟨W0, hW0⟩ : ∃ W : World, W = ((w.alloc (.cells #[u0, x0, y0, z0] 58)).alloc (.cells #[u1, x1, y1, z1] 58)).alloc (.cells #[Value.bool false, Value.slice none 0 0, Value.bool false, Value.slice none 0 0] 58) := ⟨_, rfl⟩
    rw [← hW0]
    obtain ⟨he, hb⟩ := env_three (cp2 p0 q0) (cp2 p1 q1) (cp2 (cp0 _) (cp0 _)) hW0
    have HE := Hd.mk he
    have HB := Hd.mk hb
    clear he hb hW0
    refine wp_region_vd 5 [8, 9, 10, 11, 12] [4] [] 70 [.bool false, .slice none 0 0] [isL [rC f.n, rC f.d], isL [rC g.n, rC g.d], isRats [f, g], isV (.bool false), isV (.bool true)] (by rfl) alloc_whole ?_ ?_
    · intro i hi hA aa wx hb hs hd
      match i, hi, hA with
      | 0, _, _ => exact .inl ⟨rfl, op_ldR rfl rfl (hs 3 rfl) ((HE.out.to hb).get 0 rfl)⟩
      | 1, _, _ => exact .inl ⟨rfl, op_ldR rfl rfl (hs 4 rfl) ((HE.out.to hb).get 1 rfl)⟩
      | 2, _, _ => exact .inl ⟨rfl, op_bsR2 rfl rfl (hd 0 rfl) (hd 1 rfl)⟩
      | 3, _, _ => exact .inl ⟨rfl, wp_b HOK.out (op_call1 rfl rfl Try.call102 (validRats_got [f, g] (by show 2 ≤ 2; omega) _ _ (hd 2 rfl)))⟩
      | 4, _, _ => exact .inl ⟨rfl, ⟨_, op_not rfl (hd 3 rfl), rfl⟩⟩
      | i + 5, h, _ => omega
    · intro vs X1 hb hv hal hne
      replace HB := Hd.mk (bel_then HB.out hb)
      replace HE : Hd (Env X1 [⟨w.heap.size, 58, [rC f.n, rC f.d]⟩, ⟨w.heap.size + 1, 58, [rC g.n, rC g.d]⟩, ⟨w.heap.size + 1 + 1, 58, [zC 0, zC 0]⟩]) := ⟨HE.out.to hb⟩
      have e12 : vs 12 = .bool true := hv 4 (by decide) rfl
      simp only [putAll, List.foldl_cons, List.foldl_nil, Act.put, List.setIfInBounds_toArray, List.set_cons_succ, List.set_cons_zero, List.drop_succ_cons, List.drop_zero, e12]
      generalize vs 8 = s8
      generalize vs 9 = s9
      generalize vs 10 = s10
      generalize vs 11 = s11
      clear hv hal hne hb
      go_upto_region 2 with fail
      refine wp_region_vd 1 [13] [0] [] 70 [.bool false, .slice none 0 0] [isL [zC 0, zC 0]] (by rfl) alloc_whole ?_ ?_
      · intro i hi hA aa wx hb hs hd
        match i, hi, hA with
        | 0, _, _ => exact .inl ⟨rfl, op_b0R rfl⟩
        | i + 1, h, _ => omega
      · intro vs X2 hb hv hal hne
        replace HB := Hd.mk (bel_then HB.out hb)
        replace HE : Hd (Env X2 [⟨w.heap.size, 58, [rC f.n, rC f.d]⟩, ⟨w.heap.size + 1, 58, [rC g.n, rC g.d]⟩, ⟨w.heap.size + 1 + 1, 58, [zC 0, zC 0]⟩]) := ⟨HE.out.to hb⟩
        have t13 : (isL [zC 0, zC 0]).p (vs 13) X2 := hv 0 (by decide) rfl
        obtain ⟨u13, y13, p13, q13, e13, c13, k13⟩ := isL_two.1 t13
        simp only [putAll, List.foldl_cons, List.foldl_nil, Act.put, List.setIfInBounds_toArray, List.set_cons_succ, List.set_cons_zero, List.drop_succ_cons, List.drop_zero, e13]
        refine wpList_st rfl rfl rfl rfl rfl (sto_R c13 k13 (HE.out.get 2 rfl)) ?_
        have HE' : Env (putAt (putAt X2 (w.heap.size + 1 + 1) 0 u13 y13) (w.heap.size + 1 + 1) 2 p13 q13) [⟨w.heap.size, 58, [rC f.n, rC f.d]⟩, ⟨w.heap.size + 1, 58, [rC g.n, rC g.d]⟩, ⟨w.heap.size + 1 + 1, 58, [zC 0, zC 0]⟩] := HE.out.put4 2 rfl c13 k13
        have HB' := below_put4 (u := u13) (v := y13) (u' := p13) (v' := q13) HB.out (show w.heap.size ≤ w.heap.size + 1 + 1 from by omega)
        generalize putAt (putAt X2 (w.heap.size + 1 + 1) 0 u13 y13) (w.heap.size + 1 + 1) 2 p13 q13 = X3 at *
        replace HE := Hd.mk HE'
        replace HB := Hd.mk HB'
        clear HE' HB'
        clear hv hal hne hb
        go_wp2_with fail
        obtain ⟨r0a, r0b, r0c, r0d, k0a, k0b, k0c, k0d, h0a, h0b⟩ := (HE.out.get 2 rfl).cells2
        refine bodyPost_ret (v := .tuple #[.agg #[r0a, r0b, r0c, r0d], .int .i64 2]) (by simp [results, Try.results99, go_sem, k0a, k0b, k0c, k0d]) rfl ?_
        exact ⟨_, rfl, HB.out, _, _, rfl, isL_two.2 ⟨_, _, _, _, rfl, h0a, h0b⟩, rfl⟩
end Go.Proofs.Ytcjcpfafalkceaa
