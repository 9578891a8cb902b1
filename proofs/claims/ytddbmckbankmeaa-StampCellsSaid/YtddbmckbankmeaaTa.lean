/- Moves compared; the law StampGroups. -/
import Derived.Test.YtddbmckbankmeaaSx
import Derived.Test.YtddbmckbankmeaaSz
import Derived.Laws.StructEq
set_option linter.unusedVariables false
set_option linter.unusedSimpArgs false
namespace Go.Proofs.Ytddbmckbankmeaa
open Go.RowKit
section
variable {o : Oper} {a : Act} {x y : Operand} {ty : TypeId} {i j t : Int} {f : Bool}
theorem op_neqM (ho : o.op = .binOp .neq 31 x y ty) (hx : a.eval x = .agg #[.int .i64 i, .int .i64 j, .int .i64 t, .bool f]) (hy : a.eval y = .agg #[.int .i64 i, .int .i64 j, .int .i64 t, .bool f]) (w : World) : (execOp a.eval o).run Try.prog w = .ok (.value (.bool false)) w := by
  generalize a.eval = ev at hx hy ⊢
  unfold execOp
  simp only [ho, hx, hy]
  simp [go_sem]
theorem op_eqlM (ho : o.op = .binOp .eql 31 x y ty) (hx : a.eval x = .agg #[.int .i64 i, .int .i64 j, .int .i64 t, .bool f]) (hy : a.eval y = .agg #[.int .i64 i, .int .i64 j, .int .i64 t, .bool f]) (w : World) : (execOp a.eval o).run Try.prog w = .ok (.value (.bool true)) w := by
  generalize a.eval = ev at hx hy ⊢
  unfold execOp
  simp only [ho, hx, hy]
  simp [go_sem]
theorem op_neqN (ho : o.op = .binOp .neq 26 x y ty) (hx : a.eval x = .agg #[.int .i64 i, .int .i64 j, .int .i64 t, .bool f]) (hy : a.eval y = .agg #[.int .i64 i, .int .i64 j, .int .i64 t, .bool f]) (w : World) : (execOp a.eval o).run Try.prog w = .ok (.value (.bool false)) w := by
  generalize a.eval = ev at hx hy ⊢
  unfold execOp
  simp only [ho, hx, hy]
  simp [go_sem]
theorem op_eqlN (ho : o.op = .binOp .eql 26 x y ty) (hx : a.eval x = .agg #[.int .i64 i, .int .i64 j, .int .i64 t, .bool f]) (hy : a.eval y = .agg #[.int .i64 i, .int .i64 j, .int .i64 t, .bool f]) (w : World) : (execOp a.eval o).run Try.prog w = .ok (.value (.bool true)) w := by
  generalize a.eval = ev at hx hy ⊢
  unfold execOp
  simp only [ho, hx, hy]
  simp [go_sem]
end
section
variable {W H : Int} {m n : Mv} {xs : List Int}
theorem Al.size (h : Al W H m) : sizeB W H = true := by
  have h1 := h.w
  have h2 := h.h
  unfold sizeB
  simp only [Bool.and_eq_true, decide_eq_true_eq]
  exact ⟨h1, h2⟩
theorem After_m (h : Al W H m) (k : Al W H n) (w : World) : Calls Try.prog 23 #[.int .i64 W, .int .i64 H, .agg #[.int .i64 m.x, .int .i64 m.y, .int .i64 m.t, .bool m.f], .agg #[.int .i64 n.x, .int .i64 n.y, .int .i64 n.t, .bool n.f]] w
    (Got w (isP (isV (.agg #[.int .i64 (aftM W H m n).x, .int .i64 (aftM W H m n).y, .int .i64 (aftM W H m n).t, .bool (aftM W H m n).f])) (isV (.int .i64 0))).p) := After_ok W H m.x m.y m.t n.x n.y n.t m.f n.f h.size h.al k.al w
theorem After_e {q : Mv} (h : Al W H m) (k : Al W H n) (e : aftM W H m n = q) (w : World) : Calls Try.prog 23 #[.int .i64 W, .int .i64 H, .agg #[.int .i64 m.x, .int .i64 m.y, .int .i64 m.t, .bool m.f], .agg #[.int .i64 n.x, .int .i64 n.y, .int .i64 n.t, .bool n.f]] w
    (Got w (isP (isV (.agg #[.int .i64 q.x, .int .i64 q.y, .int .i64 q.t, .bool q.f])) (isV (.int .i64 0))).p) := by
  rw [← e]
  exact After_m h k w
theorem Inverse_m (h : Al W H m) (w : World) : Calls Try.prog 24 #[.int .i64 W, .int .i64 H, .agg #[.int .i64 m.x, .int .i64 m.y, .int .i64 m.t, .bool m.f]] w
    (Got w (isP (isV (.agg #[.int .i64 (invM W H m).x, .int .i64 (invM W H m).y, .int .i64 (invM W H m).t, .bool (invM W H m).f])) (isV (.int .i64 0))).p) := by
  have hs := h.size
  have ha := h.al
  obtain ⟨x, y, t, f⟩ := m
  cases f
  · exact Inverse_false W H x y t hs ha w
  · exact Inverse_true W H x y t hs ha w
theorem same_eq (W H : Int) (xs : List Int) {ys : List Int} (e : xs = ys) (hl1 : xs.length ≤ 1000000) (v1 v2 : Value) (w : World) (h1 : (rdS W H xs).p v1 w) (h2 : (rdS W H ys).p v2 w) : Calls Try.prog 20 #[v1, v2] w (Got w (isV (.bool true)).p) := by
  subst e
  exact same_yes W H xs hl1 v1 v2 w h1 h2
end


set_option maxRecDepth 100000 in
set_option maxHeartbeats 1000000 in
theorem Groups_yes (Wd Ht : Int) (a b c : Mv) (A : Option Addr) (k : Nat) (xs : List Int) (w : World) (hri : RI w A xs) (hlk : xs.length ≤ k) (hA : A = none → k = 0) (hv : validB Wd Ht xs = true) (ha : alB Wd Ht a.x a.y a.t = true) (hb2 : alB Wd Ht b.x b.y b.t = true) (hc : alB Wd Ht c.x c.y c.t = true) :
    Calls Try.prog 5 #[.agg #[.int .i64 Wd, .int .i64 Ht, .slice A xs.length k], .agg #[.int .i64 a.x, .int .i64 a.y, .int .i64 a.t, .bool a.f], .agg #[.int .i64 b.x, .int .i64 b.y, .int .i64 b.t, .bool b.f], .agg #[.int .i64 c.x, .int .i64 c.y, .int .i64 c.t, .bool c.f]] w (Got w (isV (.bool true)).p) := by
  have HRI := Hd.mk hri
  clear hri
  have hsh := valid_short hv
  have HSTY := Hd.mk (fun W (h : RI W A xs) => (show Calls Try.prog 15 #[_] W (Got W (isSt W.heap.size Wd Ht xs).p) from by have q := stamps_got Wd Ht A k xs W h hlk hA; rwa [List.take_of_length_le (by omega)] at q))
  have HA := Hd.mk (al_of (f := a.f) (valid_size hv) ha)
  have HB2 := Hd.mk (al_of (f := b.f) (valid_size hv) hb2)
  have HC := Hd.mk (al_of (f := c.f) (valid_size hv) hc)
  have HCMP := Hd.mk (apM_comp HA.out HB2.out (valid_len hv))
  have HV := Hd.mk hv
  have FA := Hd.mk ha
  have FB := Hd.mk hb2
  have FC := Hd.mk hc
  clear hv ha hb2 hc
  go_enter Try.func5, Try.ntmps5
  go_upto_region 1 with fail
  obtain ⟨W0, hW0⟩ : ∃ W : World, W = (((w.alloc (.cells #[.int .i64 Wd, .int .i64 Ht, .slice A xs.length k] 24)).alloc (.cells #[.int .i64 a.x, .int .i64 a.y, .int .i64 a.t, .bool a.f] 26)).alloc (.cells #[.int .i64 b.x, .int .i64 b.y, .int .i64 b.t, .bool b.f] 26)).alloc (.cells #[.int .i64 c.x, .int .i64 c.y, .int .i64 c.t, .bool c.f] 26) := ⟨_, rfl⟩
  rw [← hW0]
  obtain ⟨he, hb⟩ := env_four hW0
  have HE := Hd.mk he
  have HB := Hd.mk hb
  clear he hb hW0
  refine wp_region_vd 30 [33, 34, 35, 36, 37, 38, 39, 40, 41, 42, 43, 44, 45, 46, 47, 48, 49, 50, 51, 52, 53, 54, 55, 56, 57, 58, 59, 60, 61, 62] [2, 3, 4, 6, 10, 11, 12, 13, 15, 19, 20, 21, 22, 24, 28, 29] [] 84 [.int .i64 0, .int .i64 0] [isV (.agg #[.int .i64 Wd, .int .i64 Ht, .slice A xs.length k]), isV (.bool true), isV (.bool false), isV (.bool false), isV (.pointer (some ⟨w.heap.size, 0, none⟩)), isV (.int .i64 Wd), isV (.pointer (some ⟨w.heap.size, 1, none⟩)), isV (.int .i64 Ht), isV (.agg #[.int .i64 a.x, .int .i64 a.y, .int .i64 a.t, .bool a.f]), isV (.bool true), isV (.bool false), isV (.bool false), isV (.bool false), isV (.pointer (some ⟨w.heap.size, 0, none⟩)), isV (.int .i64 Wd), isV (.pointer (some ⟨w.heap.size, 1, none⟩)), isV (.int .i64 Ht), isV (.agg #[.int .i64 b.x, .int .i64 b.y, .int .i64 b.t, .bool b.f]), isV (.bool true), isV (.bool false), isV (.bool false), isV (.bool false), isV (.pointer (some ⟨w.heap.size, 0, none⟩)), isV (.int .i64 Wd), isV (.pointer (some ⟨w.heap.size, 1, none⟩)), isV (.int .i64 Ht), isV (.agg #[.int .i64 c.x, .int .i64 c.y, .int .i64 c.t, .bool c.f]), isV (.bool true), isV (.bool false), isV (.bool false)] (by rfl) alloc_Z ?_ ?_
  · intro qi qh qA aa wx hb hs hd
    match qi, qh, qA with
    | 0, _, _ => exact .inl ⟨rfl, op_ldU rfl rfl (hs 4 rfl) ((HE.out.to hb).get 0 rfl)⟩
    | 1, _, _ => exact .inl ⟨rfl, wp_b (bool_eq HV.out) (op_call1 rfl rfl Try.call17 (rValid_rd Wd Ht xs _ _ (rd_ex (xs := xs) (hd 0 rfl) (HRI.out.to (bel_then HB.out hb)))))⟩
    | 2, _, _ => exact .inl ⟨rfl, ⟨_, op_not rfl (hd 1 rfl), rfl⟩⟩
    | 3, _, _ => exact .inl ⟨rfl, op_mv rfl (hd 2 rfl)⟩
    | 4, _, _ => exact .inl ⟨⟨rfl, .inl (hd 3 rfl)⟩, ⟨_, op_faU0 rfl (hs 4 rfl), rfl⟩⟩
    | 5, _, _ => exact .inl ⟨⟨rfl, .inl (hd 3 rfl)⟩, op_ldI rfl rfl (hd 4 rfl) ((HE.out.to hb).cell 0 0 rfl rfl)⟩
    | 6, _, _ => exact .inl ⟨⟨rfl, .inl (hd 3 rfl)⟩, ⟨_, op_faU1 rfl (hs 4 rfl), rfl⟩⟩
    | 7, _, _ => exact .inl ⟨⟨rfl, .inl (hd 3 rfl)⟩, op_ldI rfl rfl (hd 6 rfl) ((HE.out.to hb).cell 0 1 rfl rfl)⟩
    | 8, _, _ => exact .inl ⟨⟨rfl, .inl (hd 3 rfl)⟩, op_ldN rfl rfl (hs 5 rfl) ((HE.out.to hb).get 1 rfl)⟩
    | 9, _, _ => exact .inl ⟨⟨rfl, .inl (hd 3 rfl)⟩, wp_b (bool_eq FA.out) (op_call3 rfl rfl Try.call19 (by rw [(show aa.eval (.tmp 38) = .int .i64 Wd from (hd 5 rfl)), (show aa.eval (.tmp 40) = .int .i64 Ht from (hd 7 rfl)), (show aa.eval (.tmp 41) = .agg #[.int .i64 a.x, .int .i64 a.y, .int .i64 a.t, .bool a.f] from (hd 8 rfl))]; exact Fits_got Wd Ht a.x a.y a.t a.f _))⟩
    | 10, _, _ => exact .inl ⟨⟨rfl, .inl (hd 3 rfl)⟩, ⟨_, op_not rfl (hd 9 rfl), rfl⟩⟩
    | 11, _, _ => exact .inl ⟨rfl, ⟨_, op_pickF rfl (hd 3 rfl) (hd 10 rfl), rfl⟩⟩
    | 12, _, _ => exact .inl ⟨rfl, op_mv rfl (hd 11 rfl)⟩
    | 13, _, _ => exact .inl ⟨⟨rfl, .inl (hd 12 rfl)⟩, ⟨_, op_faU0 rfl (hs 4 rfl), rfl⟩⟩
    | 14, _, _ => exact .inl ⟨⟨rfl, .inl (hd 12 rfl)⟩, op_ldI rfl rfl (hd 13 rfl) ((HE.out.to hb).cell 0 0 rfl rfl)⟩
    | 15, _, _ => exact .inl ⟨⟨rfl, .inl (hd 12 rfl)⟩, ⟨_, op_faU1 rfl (hs 4 rfl), rfl⟩⟩
    | 16, _, _ => exact .inl ⟨⟨rfl, .inl (hd 12 rfl)⟩, op_ldI rfl rfl (hd 15 rfl) ((HE.out.to hb).cell 0 1 rfl rfl)⟩
    | 17, _, _ => exact .inl ⟨⟨rfl, .inl (hd 12 rfl)⟩, op_ldN rfl rfl (hs 6 rfl) ((HE.out.to hb).get 2 rfl)⟩
    | 18, _, _ => exact .inl ⟨⟨rfl, .inl (hd 12 rfl)⟩, wp_b (bool_eq FB.out) (op_call3 rfl rfl Try.call19 (by rw [(show aa.eval (.tmp 47) = .int .i64 Wd from (hd 14 rfl)), (show aa.eval (.tmp 49) = .int .i64 Ht from (hd 16 rfl)), (show aa.eval (.tmp 50) = .agg #[.int .i64 b.x, .int .i64 b.y, .int .i64 b.t, .bool b.f] from (hd 17 rfl))]; exact Fits_got Wd Ht b.x b.y b.t b.f _))⟩
    | 19, _, _ => exact .inl ⟨⟨rfl, .inl (hd 12 rfl)⟩, ⟨_, op_not rfl (hd 18 rfl), rfl⟩⟩
    | 20, _, _ => exact .inl ⟨rfl, ⟨_, op_pickF rfl (hd 12 rfl) (hd 19 rfl), rfl⟩⟩
    | 21, _, _ => exact .inl ⟨rfl, op_mv rfl (hd 20 rfl)⟩
    | 22, _, _ => exact .inl ⟨⟨rfl, .inl (hd 21 rfl)⟩, ⟨_, op_faU0 rfl (hs 4 rfl), rfl⟩⟩
    | 23, _, _ => exact .inl ⟨⟨rfl, .inl (hd 21 rfl)⟩, op_ldI rfl rfl (hd 22 rfl) ((HE.out.to hb).cell 0 0 rfl rfl)⟩
    | 24, _, _ => exact .inl ⟨⟨rfl, .inl (hd 21 rfl)⟩, ⟨_, op_faU1 rfl (hs 4 rfl), rfl⟩⟩
    | 25, _, _ => exact .inl ⟨⟨rfl, .inl (hd 21 rfl)⟩, op_ldI rfl rfl (hd 24 rfl) ((HE.out.to hb).cell 0 1 rfl rfl)⟩
    | 26, _, _ => exact .inl ⟨⟨rfl, .inl (hd 21 rfl)⟩, op_ldN rfl rfl (hs 7 rfl) ((HE.out.to hb).get 3 rfl)⟩
    | 27, _, _ => exact .inl ⟨⟨rfl, .inl (hd 21 rfl)⟩, wp_b (bool_eq FC.out) (op_call3 rfl rfl Try.call19 (by rw [(show aa.eval (.tmp 56) = .int .i64 Wd from (hd 23 rfl)), (show aa.eval (.tmp 58) = .int .i64 Ht from (hd 25 rfl)), (show aa.eval (.tmp 59) = .agg #[.int .i64 c.x, .int .i64 c.y, .int .i64 c.t, .bool c.f] from (hd 26 rfl))]; exact Fits_got Wd Ht c.x c.y c.t c.f _))⟩
    | 28, _, _ => exact .inl ⟨⟨rfl, .inl (hd 21 rfl)⟩, ⟨_, op_not rfl (hd 27 rfl), rfl⟩⟩
    | 29, _, _ => exact .inl ⟨rfl, ⟨_, op_pickF rfl (hd 21 rfl) (hd 28 rfl), rfl⟩⟩
    | qi + 30, h, _ => omega
  · intro vs X1 hb hv hal hne
    have HL0 := Hd.mk (HE.out.lt)
    have HBW := HB
    replace HB := Hd.mk (bel_then HB.out hb)
    replace HE : Hd (Env X1 [⟨w.heap.size, 24, [.int .i64 Wd, .int .i64 Ht, .slice A xs.length k]⟩, ⟨w.heap.size + 1, 26, [.int .i64 a.x, .int .i64 a.y, .int .i64 a.t, .bool a.f]⟩, ⟨w.heap.size + 1 + 1, 26, [.int .i64 b.x, .int .i64 b.y, .int .i64 b.t, .bool b.f]⟩, ⟨w.heap.size + 1 + 1 + 1, 26, [.int .i64 c.x, .int .i64 c.y, .int .i64 c.t, .bool c.f]⟩]) := ⟨HE.out.to hb⟩
    have HLS := HL0
    have e62 : vs 62 = .bool false := hv 29 (by decide) rfl
    simp only [putAll, List.foldl_cons, List.foldl_nil, Act.put, List.setIfInBounds_toArray, List.set_cons_succ, List.set_cons_zero, List.drop_succ_cons, List.drop_zero, e62]
    generalize vs 33 = s33
    generalize vs 34 = s34
    generalize vs 35 = s35
    generalize vs 36 = s36
    generalize vs 37 = s37
    generalize vs 38 = s38
    generalize vs 39 = s39
    generalize vs 40 = s40
    generalize vs 41 = s41
    generalize vs 42 = s42
    generalize vs 43 = s43
    generalize vs 44 = s44
    generalize vs 45 = s45
    generalize vs 46 = s46
    generalize vs 47 = s47
    generalize vs 48 = s48
    generalize vs 49 = s49
    generalize vs 50 = s50
    generalize vs 51 = s51
    generalize vs 52 = s52
    generalize vs 53 = s53
    generalize vs 54 = s54
    generalize vs 55 = s55
    generalize vs 56 = s56
    generalize vs 57 = s57
    generalize vs 58 = s58
    generalize vs 59 = s59
    generalize vs 60 = s60
    generalize vs 61 = s61
    clear hv hal hne hb HL0 HBW HLS e62
    go_upto_region 4 with fail
    refine wp_region_vs 15 [87, 88, 89, 90, 91, 92, 93, 94, 95, 96, 13, 14, 15, 11, 12] [0, 2, 13, 14] [10, 11, 12] 31 [.int .i64 0, .int .i64 0, .int .i64 0, .bool false] [isV (.pointer (some ⟨w.heap.size, 0, none⟩)), isV (.int .i64 Wd), isV (.pointer (some ⟨w.heap.size, 1, none⟩)), isV (.int .i64 Ht), isV (.agg #[.int .i64 a.x, .int .i64 a.y, .int .i64 a.t, .bool a.f]), isV (.agg #[.int .i64 a.x, .int .i64 a.y, .int .i64 a.t, .bool a.f]), isV (.agg #[.int .i64 b.x, .int .i64 b.y, .int .i64 b.t, .bool b.f]), isV (.agg #[.int .i64 b.x, .int .i64 b.y, .int .i64 b.t, .bool b.f]), isV (.agg #[.int .i64 c.x, .int .i64 c.y, .int .i64 c.t, .bool c.f]), isV (.agg #[.int .i64 c.x, .int .i64 c.y, .int .i64 c.t, .bool c.f]), SP.any, SP.any, SP.any, isV (.int .i64 Wd), isV (.int .i64 Ht)] (by kernel_rfl) (by kernel_rfl) (by kernel_rfl) (by rfl) alloc_M (fun d v c a w h => by cases d <;> exact h) ?_ ?_
    · intro qi qh qA aa wx hb hs hd
      match qi, qh, qA with
      | 0, _, _ => exact ⟨_, op_faU0 rfl (hs 4 rfl), rfl⟩
      | 1, _, _ => exact op_ldI rfl rfl (hd 0 rfl) ((HE.out.to hb).cell 0 0 rfl rfl)
      | 2, _, _ => exact ⟨_, op_faU1 rfl (hs 4 rfl), rfl⟩
      | 3, _, _ => exact op_ldI rfl rfl (hd 2 rfl) ((HE.out.to hb).cell 0 1 rfl rfl)
      | 4, _, _ => exact op_ldN rfl rfl (hs 5 rfl) ((HE.out.to hb).get 1 rfl)
      | 5, _, _ => exact op_call1 rfl rfl Try.call14 (by rw [(show aa.eval (.tmp 91) = .agg #[.int .i64 a.x, .int .i64 a.y, .int .i64 a.t, .bool a.f] from (hd 4 rfl))]; exact move_got a.x a.y a.t a.f _)
      | 6, _, _ => exact op_ldN rfl rfl (hs 6 rfl) ((HE.out.to hb).get 2 rfl)
      | 7, _, _ => exact op_call1 rfl rfl Try.call14 (by rw [(show aa.eval (.tmp 93) = .agg #[.int .i64 b.x, .int .i64 b.y, .int .i64 b.t, .bool b.f] from (hd 6 rfl))]; exact move_got b.x b.y b.t b.f _)
      | 8, _, _ => exact op_ldN rfl rfl (hs 7 rfl) ((HE.out.to hb).get 3 rfl)
      | 9, _, _ => exact op_call1 rfl rfl Try.call14 (by rw [(show aa.eval (.tmp 95) = .agg #[.int .i64 c.x, .int .i64 c.y, .int .i64 c.t, .bool c.f] from (hd 8 rfl))]; exact move_got c.x c.y c.t c.f _)
      | 10, _, h => cases h
      | 11, _, h => cases h
      | 12, _, h => cases h
      | 13, _, _ => exact op_asg rfl (hd 1 rfl)
      | 14, _, _ => exact op_asg rfl (hd 3 rfl)
      | qi + 15, h, _ => omega
    · intro vs X2 hb hv hal hne
      have HL0 := Hd.mk (HE.out.lt)
      have HBW := HB
      replace HB := Hd.mk (bel_then HB.out hb)
      replace HE : Hd (Env X2 [⟨w.heap.size, 24, [.int .i64 Wd, .int .i64 Ht, .slice A xs.length k]⟩, ⟨w.heap.size + 1, 26, [.int .i64 a.x, .int .i64 a.y, .int .i64 a.t, .bool a.f]⟩, ⟨w.heap.size + 1 + 1, 26, [.int .i64 b.x, .int .i64 b.y, .int .i64 b.t, .bool b.f]⟩, ⟨w.heap.size + 1 + 1 + 1, 26, [.int .i64 c.x, .int .i64 c.y, .int .i64 c.t, .bool c.f]⟩]) := ⟨HE.out.to hb⟩
      have HLS := HL0
      have e92 : vs 92 = .agg #[.int .i64 a.x, .int .i64 a.y, .int .i64 a.t, .bool a.f] := hv 5 (by decide) rfl
      have e94 : vs 94 = .agg #[.int .i64 b.x, .int .i64 b.y, .int .i64 b.t, .bool b.f] := hv 7 (by decide) rfl
      have e96 : vs 96 = .agg #[.int .i64 c.x, .int .i64 c.y, .int .i64 c.t, .bool c.f] := hv 9 (by decide) rfl
      have e11 : vs 11 = .int .i64 Wd := hv 13 (by decide) rfl
      have e12 : vs 12 = .int .i64 Ht := hv 14 (by decide) rfl
      obtain ⟨g13, e13, l13, b13⟩ : ∃ g, vs 13 = .pointer (some ⟨g, 0, none⟩) ∧ _ := hal 10 rfl
      obtain ⟨g14, e14, l14, b14⟩ : ∃ g, vs 14 = .pointer (some ⟨g, 0, none⟩) ∧ _ := hal 11 rfl
      obtain ⟨g15, e15, l15, b15⟩ : ∃ g, vs 15 = .pointer (some ⟨g, 0, none⟩) ∧ _ := hal 12 rfl
      replace HE : Hd (Env X2 [⟨w.heap.size, 24, [.int .i64 Wd, .int .i64 Ht, .slice A xs.length k]⟩, ⟨w.heap.size + 1, 26, [.int .i64 a.x, .int .i64 a.y, .int .i64 a.t, .bool a.f]⟩, ⟨w.heap.size + 1 + 1, 26, [.int .i64 b.x, .int .i64 b.y, .int .i64 b.t, .bool b.f]⟩, ⟨w.heap.size + 1 + 1 + 1, 26, [.int .i64 c.x, .int .i64 c.y, .int .i64 c.t, .bool c.f]⟩, ⟨g13, 31, [.int .i64 0, .int .i64 0, .int .i64 0, .bool false]⟩]) := ⟨Env.addne (e := ⟨g13, 31, [.int .i64 0, .int .i64 0, .int .i64 0, .bool false]⟩) HE.out b13 (fun e' he => Nat.ne_of_lt (Nat.lt_of_lt_of_le (HL0.out e' he) l13))⟩
      have G13 : Hd (w.heap.size ≤ g13) := ⟨Nat.le_trans HBW.out.size l13⟩
      replace HE : Hd (Env X2 [⟨w.heap.size, 24, [.int .i64 Wd, .int .i64 Ht, .slice A xs.length k]⟩, ⟨w.heap.size + 1, 26, [.int .i64 a.x, .int .i64 a.y, .int .i64 a.t, .bool a.f]⟩, ⟨w.heap.size + 1 + 1, 26, [.int .i64 b.x, .int .i64 b.y, .int .i64 b.t, .bool b.f]⟩, ⟨w.heap.size + 1 + 1 + 1, 26, [.int .i64 c.x, .int .i64 c.y, .int .i64 c.t, .bool c.f]⟩, ⟨g13, 31, [.int .i64 0, .int .i64 0, .int .i64 0, .bool false]⟩, ⟨g14, 31, [.int .i64 0, .int .i64 0, .int .i64 0, .bool false]⟩]) := ⟨Env.addne (e := ⟨g14, 31, [.int .i64 0, .int .i64 0, .int .i64 0, .bool false]⟩) HE.out b14 (fun e' he => (List.mem_append.1 (show e' ∈ _ ++ [_] from he)).elim (fun he => Nat.ne_of_lt (Nat.lt_of_lt_of_le (HL0.out e' he) l14)) (fun he => by rw [List.mem_singleton.1 he]; exact ptr_ne (by rw [← e13, ← e14]; exact hne 10 11 rfl rfl (by decide))))⟩
      have G14 : Hd (w.heap.size ≤ g14) := ⟨Nat.le_trans HBW.out.size l14⟩
      replace HE : Hd (Env X2 [⟨w.heap.size, 24, [.int .i64 Wd, .int .i64 Ht, .slice A xs.length k]⟩, ⟨w.heap.size + 1, 26, [.int .i64 a.x, .int .i64 a.y, .int .i64 a.t, .bool a.f]⟩, ⟨w.heap.size + 1 + 1, 26, [.int .i64 b.x, .int .i64 b.y, .int .i64 b.t, .bool b.f]⟩, ⟨w.heap.size + 1 + 1 + 1, 26, [.int .i64 c.x, .int .i64 c.y, .int .i64 c.t, .bool c.f]⟩, ⟨g13, 31, [.int .i64 0, .int .i64 0, .int .i64 0, .bool false]⟩, ⟨g14, 31, [.int .i64 0, .int .i64 0, .int .i64 0, .bool false]⟩, ⟨g15, 31, [.int .i64 0, .int .i64 0, .int .i64 0, .bool false]⟩]) := ⟨Env.addne (e := ⟨g15, 31, [.int .i64 0, .int .i64 0, .int .i64 0, .bool false]⟩) HE.out b15 (fun e' he => (List.mem_append.1 (show e' ∈ _ ++ [_] from he)).elim (fun he => (List.mem_append.1 (show e' ∈ _ ++ [_] from he)).elim (fun he => Nat.ne_of_lt (Nat.lt_of_lt_of_le (HL0.out e' he) l15)) (fun he => by rw [List.mem_singleton.1 he]; exact ptr_ne (by rw [← e13, ← e15]; exact hne 10 12 rfl rfl (by decide)))) (fun he => by rw [List.mem_singleton.1 he]; exact ptr_ne (by rw [← e14, ← e15]; exact hne 11 12 rfl rfl (by decide))))⟩
      have G15 : Hd (w.heap.size ≤ g15) := ⟨Nat.le_trans HBW.out.size l15⟩
      simp only [putAll, List.foldl_cons, List.foldl_nil, Act.put, List.setIfInBounds_toArray, List.set_cons_succ, List.set_cons_zero, List.drop_succ_cons, List.drop_zero, e92, e94, e96, e11, e12, e13, e14, e15]
      generalize vs 87 = s87
      generalize vs 88 = s88
      generalize vs 89 = s89
      generalize vs 90 = s90
      generalize vs 91 = s91
      generalize vs 93 = s93
      generalize vs 95 = s95
      clear hv hal hne hb HL0 HBW HLS e92 e94 e96 e11 e12 e13 e14 e15 l13 l14 l15 b13 b14 b15
      refine wpList_st rfl rfl rfl rfl rfl (sto_M (HE.out.get 4 rfl)) ?_
      have HE' : Env (putL X2 g13 0 [.int .i64 a.x, .int .i64 a.y, .int .i64 a.t, .bool a.f]) [⟨w.heap.size, 24, [.int .i64 Wd, .int .i64 Ht, .slice A xs.length k]⟩, ⟨w.heap.size + 1, 26, [.int .i64 a.x, .int .i64 a.y, .int .i64 a.t, .bool a.f]⟩, ⟨w.heap.size + 1 + 1, 26, [.int .i64 b.x, .int .i64 b.y, .int .i64 b.t, .bool b.f]⟩, ⟨w.heap.size + 1 + 1 + 1, 26, [.int .i64 c.x, .int .i64 c.y, .int .i64 c.t, .bool c.f]⟩, ⟨g13, 31, [.int .i64 a.x, .int .i64 a.y, .int .i64 a.t, .bool a.f]⟩, ⟨g14, 31, [.int .i64 0, .int .i64 0, .int .i64 0, .bool false]⟩, ⟨g15, 31, [.int .i64 0, .int .i64 0, .int .i64 0, .bool false]⟩] := HE.out.putF 4 rfl rfl
      have HB' := putL_below (show w.heap.size ≤ g13 from G13.out) [.int .i64 a.x, .int .i64 a.y, .int .i64 a.t, .bool a.f] _ 0 HB.out
      generalize putL X2 g13 0 [.int .i64 a.x, .int .i64 a.y, .int .i64 a.t, .bool a.f] = X3 at *
      replace HE := Hd.mk HE'
      replace HB := Hd.mk HB'
      clear HE' HB'
      refine wpList_st rfl rfl rfl rfl rfl (sto_M (HE.out.get 5 rfl)) ?_
      have HE' : Env (putL X3 g14 0 [.int .i64 b.x, .int .i64 b.y, .int .i64 b.t, .bool b.f]) [⟨w.heap.size, 24, [.int .i64 Wd, .int .i64 Ht, .slice A xs.length k]⟩, ⟨w.heap.size + 1, 26, [.int .i64 a.x, .int .i64 a.y, .int .i64 a.t, .bool a.f]⟩, ⟨w.heap.size + 1 + 1, 26, [.int .i64 b.x, .int .i64 b.y, .int .i64 b.t, .bool b.f]⟩, ⟨w.heap.size + 1 + 1 + 1, 26, [.int .i64 c.x, .int .i64 c.y, .int .i64 c.t, .bool c.f]⟩, ⟨g13, 31, [.int .i64 a.x, .int .i64 a.y, .int .i64 a.t, .bool a.f]⟩, ⟨g14, 31, [.int .i64 b.x, .int .i64 b.y, .int .i64 b.t, .bool b.f]⟩, ⟨g15, 31, [.int .i64 0, .int .i64 0, .int .i64 0, .bool false]⟩] := HE.out.putF 5 rfl rfl
      have HB' := putL_below (show w.heap.size ≤ g14 from G14.out) [.int .i64 b.x, .int .i64 b.y, .int .i64 b.t, .bool b.f] _ 0 HB.out
      generalize putL X3 g14 0 [.int .i64 b.x, .int .i64 b.y, .int .i64 b.t, .bool b.f] = X4 at *
      replace HE := Hd.mk HE'
      replace HB := Hd.mk HB'
      clear HE' HB'
      refine wpList_st rfl rfl rfl rfl rfl (sto_M (HE.out.get 6 rfl)) ?_
      have HE' : Env (putL X4 g15 0 [.int .i64 c.x, .int .i64 c.y, .int .i64 c.t, .bool c.f]) [⟨w.heap.size, 24, [.int .i64 Wd, .int .i64 Ht, .slice A xs.length k]⟩, ⟨w.heap.size + 1, 26, [.int .i64 a.x, .int .i64 a.y, .int .i64 a.t, .bool a.f]⟩, ⟨w.heap.size + 1 + 1, 26, [.int .i64 b.x, .int .i64 b.y, .int .i64 b.t, .bool b.f]⟩, ⟨w.heap.size + 1 + 1 + 1, 26, [.int .i64 c.x, .int .i64 c.y, .int .i64 c.t, .bool c.f]⟩, ⟨g13, 31, [.int .i64 a.x, .int .i64 a.y, .int .i64 a.t, .bool a.f]⟩, ⟨g14, 31, [.int .i64 b.x, .int .i64 b.y, .int .i64 b.t, .bool b.f]⟩, ⟨g15, 31, [.int .i64 c.x, .int .i64 c.y, .int .i64 c.t, .bool c.f]⟩] := HE.out.putF 6 rfl rfl
      have HB' := putL_below (show w.heap.size ≤ g15 from G15.out) [.int .i64 c.x, .int .i64 c.y, .int .i64 c.t, .bool c.f] _ 0 HB.out
      generalize putL X4 g15 0 [.int .i64 c.x, .int .i64 c.y, .int .i64 c.t, .bool c.f] = X5 at *
      replace HE := Hd.mk HE'
      replace HB := Hd.mk HB'
      clear HE' HB'
      go_upto_region 5 with fail
      refine wp_region_vd 9 [98, 99, 100, 101, 102, 97, 103, 104, 16] [0, 1, 5, 6, 7] [8] 31 [.int .i64 0, .int .i64 0, .int .i64 0, .bool false] [isV (.int .i64 Wd), isV (.int .i64 Ht), isV (.agg #[.int .i64 a.x, .int .i64 a.y, .int .i64 a.t, .bool a.f]), isV (.agg #[.int .i64 b.x, .int .i64 b.y, .int .i64 b.t, .bool b.f]), isP (isV (.agg #[.int .i64 ((aftM Wd Ht a b).x), .int .i64 ((aftM Wd Ht a b).y), .int .i64 ((aftM Wd Ht a b).t), .bool ((aftM Wd Ht a b).f)])) (isV (.int .i64 0)), isP (isV (.agg #[.int .i64 ((aftM Wd Ht a b).x), .int .i64 ((aftM Wd Ht a b).y), .int .i64 ((aftM Wd Ht a b).t), .bool ((aftM Wd Ht a b).f)])) (isV (.int .i64 0)), isV (.agg #[.int .i64 ((aftM Wd Ht a b).x), .int .i64 ((aftM Wd Ht a b).y), .int .i64 ((aftM Wd Ht a b).t), .bool ((aftM Wd Ht a b).f)]), isV (.int .i64 0), SP.any] (by rfl) alloc_M ?_ ?_
      · intro qi qh qA aa wx hb hs hd
        match qi, qh, qA with
        | 0, _, _ => exact .inl ⟨rfl, op_mv rfl (hs 11 rfl)⟩
        | 1, _, _ => exact .inl ⟨rfl, op_mv rfl (hs 12 rfl)⟩
        | 2, _, _ => exact .inl ⟨rfl, op_ldM rfl rfl (hs 13 rfl) ((HE.out.to hb).get 4 rfl)⟩
        | 3, _, _ => exact .inl ⟨rfl, op_ldM rfl rfl (hs 14 rfl) ((HE.out.to hb).get 5 rfl)⟩
        | 4, _, _ => exact .inl ⟨rfl, op_call4 rfl rfl Try.call23 (by rw [show aa.eval (.tmp 98) = .int .i64 Wd from (hd 0 rfl), show aa.eval (.tmp 99) = .int .i64 Ht from (hd 1 rfl), show aa.eval (.tmp 100) = .agg #[.int .i64 a.x, .int .i64 a.y, .int .i64 a.t, .bool a.f] from (hd 2 rfl), show aa.eval (.tmp 101) = .agg #[.int .i64 b.x, .int .i64 b.y, .int .i64 b.t, .bool b.f] from (hd 3 rfl)]; exact After_m HA.out HB2.out _)⟩
        | 5, _, _ => exact .inl ⟨rfl, op_mv rfl (hd 4 rfl)⟩
        | 6, _, _ => exact .inl ⟨rfl, op_fst rfl (hd 5 rfl)⟩
        | 7, _, _ => exact .inl ⟨rfl, op_snd rfl (hd 5 rfl)⟩
        | 8, _, h => cases h
        | qi + 9, h, _ => omega
      · intro vs X6 hb hv hal hne
        have HL0 := Hd.mk (HE.out.lt)
        have HBW := HB
        replace HB := Hd.mk (bel_then HB.out hb)
        replace HE : Hd (Env X6 [⟨w.heap.size, 24, [.int .i64 Wd, .int .i64 Ht, .slice A xs.length k]⟩, ⟨w.heap.size + 1, 26, [.int .i64 a.x, .int .i64 a.y, .int .i64 a.t, .bool a.f]⟩, ⟨w.heap.size + 1 + 1, 26, [.int .i64 b.x, .int .i64 b.y, .int .i64 b.t, .bool b.f]⟩, ⟨w.heap.size + 1 + 1 + 1, 26, [.int .i64 c.x, .int .i64 c.y, .int .i64 c.t, .bool c.f]⟩, ⟨g13, 31, [.int .i64 a.x, .int .i64 a.y, .int .i64 a.t, .bool a.f]⟩, ⟨g14, 31, [.int .i64 b.x, .int .i64 b.y, .int .i64 b.t, .bool b.f]⟩, ⟨g15, 31, [.int .i64 c.x, .int .i64 c.y, .int .i64 c.t, .bool c.f]⟩]) := ⟨HE.out.to hb⟩
        have HLS := HL0
        have e103 : vs 103 = .agg #[.int .i64 ((aftM Wd Ht a b).x), .int .i64 ((aftM Wd Ht a b).y), .int .i64 ((aftM Wd Ht a b).t), .bool ((aftM Wd Ht a b).f)] := hv 6 (by decide) rfl
        have e104 : vs 104 = .int .i64 0 := hv 7 (by decide) rfl
        obtain ⟨g16, e16, l16, b16⟩ : ∃ g, vs 16 = .pointer (some ⟨g, 0, none⟩) ∧ _ := hal 8 rfl
        replace HE : Hd (Env X6 [⟨w.heap.size, 24, [.int .i64 Wd, .int .i64 Ht, .slice A xs.length k]⟩, ⟨w.heap.size + 1, 26, [.int .i64 a.x, .int .i64 a.y, .int .i64 a.t, .bool a.f]⟩, ⟨w.heap.size + 1 + 1, 26, [.int .i64 b.x, .int .i64 b.y, .int .i64 b.t, .bool b.f]⟩, ⟨w.heap.size + 1 + 1 + 1, 26, [.int .i64 c.x, .int .i64 c.y, .int .i64 c.t, .bool c.f]⟩, ⟨g13, 31, [.int .i64 a.x, .int .i64 a.y, .int .i64 a.t, .bool a.f]⟩, ⟨g14, 31, [.int .i64 b.x, .int .i64 b.y, .int .i64 b.t, .bool b.f]⟩, ⟨g15, 31, [.int .i64 c.x, .int .i64 c.y, .int .i64 c.t, .bool c.f]⟩, ⟨g16, 31, [.int .i64 0, .int .i64 0, .int .i64 0, .bool false]⟩]) := ⟨Env.addne (e := ⟨g16, 31, [.int .i64 0, .int .i64 0, .int .i64 0, .bool false]⟩) HE.out b16 (fun e' he => Nat.ne_of_lt (Nat.lt_of_lt_of_le (HL0.out e' he) l16))⟩
        have G16 : Hd (w.heap.size ≤ g16) := ⟨Nat.le_trans HBW.out.size l16⟩
        simp only [putAll, List.foldl_cons, List.foldl_nil, Act.put, List.setIfInBounds_toArray, List.set_cons_succ, List.set_cons_zero, List.drop_succ_cons, List.drop_zero, e103, e104, e16]
        generalize vs 98 = s98
        generalize vs 99 = s99
        generalize vs 100 = s100
        generalize vs 101 = s101
        generalize vs 102 = s102
        generalize vs 97 = s97
        clear hv hal hne hb HL0 HBW HLS e103 e104 e16 l16 b16
        refine wpList_st rfl rfl rfl rfl rfl (sto_M (HE.out.get 7 rfl)) ?_
        have HE' : Env (putL X6 g16 0 [.int .i64 ((aftM Wd Ht a b).x), .int .i64 ((aftM Wd Ht a b).y), .int .i64 ((aftM Wd Ht a b).t), .bool ((aftM Wd Ht a b).f)]) [⟨w.heap.size, 24, [.int .i64 Wd, .int .i64 Ht, .slice A xs.length k]⟩, ⟨w.heap.size + 1, 26, [.int .i64 a.x, .int .i64 a.y, .int .i64 a.t, .bool a.f]⟩, ⟨w.heap.size + 1 + 1, 26, [.int .i64 b.x, .int .i64 b.y, .int .i64 b.t, .bool b.f]⟩, ⟨w.heap.size + 1 + 1 + 1, 26, [.int .i64 c.x, .int .i64 c.y, .int .i64 c.t, .bool c.f]⟩, ⟨g13, 31, [.int .i64 a.x, .int .i64 a.y, .int .i64 a.t, .bool a.f]⟩, ⟨g14, 31, [.int .i64 b.x, .int .i64 b.y, .int .i64 b.t, .bool b.f]⟩, ⟨g15, 31, [.int .i64 c.x, .int .i64 c.y, .int .i64 c.t, .bool c.f]⟩, ⟨g16, 31, [.int .i64 ((aftM Wd Ht a b).x), .int .i64 ((aftM Wd Ht a b).y), .int .i64 ((aftM Wd Ht a b).t), .bool ((aftM Wd Ht a b).f)]⟩] := HE.out.putF 7 rfl rfl
        have HB' := putL_below (show w.heap.size ≤ g16 from G16.out) [.int .i64 ((aftM Wd Ht a b).x), .int .i64 ((aftM Wd Ht a b).y), .int .i64 ((aftM Wd Ht a b).t), .bool ((aftM Wd Ht a b).f)] _ 0 HB.out
        generalize putL X6 g16 0 [.int .i64 ((aftM Wd Ht a b).x), .int .i64 ((aftM Wd Ht a b).y), .int .i64 ((aftM Wd Ht a b).t), .bool ((aftM Wd Ht a b).f)] = X7 at *
        replace HE := Hd.mk HE'
        replace HB := Hd.mk HB'
        clear HE' HB'
        go_upto_region 6 with fail
        refine wp_region_vd 9 [106, 107, 108, 109, 110, 105, 111, 112, 18] [0, 1, 5, 6, 7] [8] 31 [.int .i64 0, .int .i64 0, .int .i64 0, .bool false] [isV (.int .i64 Wd), isV (.int .i64 Ht), isV (.agg #[.int .i64 ((aftM Wd Ht a b).x), .int .i64 ((aftM Wd Ht a b).y), .int .i64 ((aftM Wd Ht a b).t), .bool ((aftM Wd Ht a b).f)]), isV (.agg #[.int .i64 c.x, .int .i64 c.y, .int .i64 c.t, .bool c.f]), isP (isV (.agg #[.int .i64 ((aftM Wd Ht (aftM Wd Ht a b) c).x), .int .i64 ((aftM Wd Ht (aftM Wd Ht a b) c).y), .int .i64 ((aftM Wd Ht (aftM Wd Ht a b) c).t), .bool ((aftM Wd Ht (aftM Wd Ht a b) c).f)])) (isV (.int .i64 0)), isP (isV (.agg #[.int .i64 ((aftM Wd Ht (aftM Wd Ht a b) c).x), .int .i64 ((aftM Wd Ht (aftM Wd Ht a b) c).y), .int .i64 ((aftM Wd Ht (aftM Wd Ht a b) c).t), .bool ((aftM Wd Ht (aftM Wd Ht a b) c).f)])) (isV (.int .i64 0)), isV (.agg #[.int .i64 ((aftM Wd Ht (aftM Wd Ht a b) c).x), .int .i64 ((aftM Wd Ht (aftM Wd Ht a b) c).y), .int .i64 ((aftM Wd Ht (aftM Wd Ht a b) c).t), .bool ((aftM Wd Ht (aftM Wd Ht a b) c).f)]), isV (.int .i64 0), SP.any] (by rfl) alloc_M ?_ ?_
        · intro qi qh qA aa wx hb hs hd
          match qi, qh, qA with
          | 0, _, _ => exact .inl ⟨rfl, op_mv rfl (hs 11 rfl)⟩
          | 1, _, _ => exact .inl ⟨rfl, op_mv rfl (hs 12 rfl)⟩
          | 2, _, _ => exact .inl ⟨rfl, op_ldM rfl rfl (hs 16 rfl) ((HE.out.to hb).get 7 rfl)⟩
          | 3, _, _ => exact .inl ⟨rfl, op_ldM rfl rfl (hs 15 rfl) ((HE.out.to hb).get 6 rfl)⟩
          | 4, _, _ => exact .inl ⟨rfl, op_call4 rfl rfl Try.call23 (by rw [show aa.eval (.tmp 106) = .int .i64 Wd from (hd 0 rfl), show aa.eval (.tmp 107) = .int .i64 Ht from (hd 1 rfl), show aa.eval (.tmp 108) = .agg #[.int .i64 ((aftM Wd Ht a b).x), .int .i64 ((aftM Wd Ht a b).y), .int .i64 ((aftM Wd Ht a b).t), .bool ((aftM Wd Ht a b).f)] from (hd 2 rfl), show aa.eval (.tmp 109) = .agg #[.int .i64 c.x, .int .i64 c.y, .int .i64 c.t, .bool c.f] from (hd 3 rfl)]; exact After_m (aft_al HA.out HB2.out) HC.out _)⟩
          | 5, _, _ => exact .inl ⟨rfl, op_mv rfl (hd 4 rfl)⟩
          | 6, _, _ => exact .inl ⟨rfl, op_fst rfl (hd 5 rfl)⟩
          | 7, _, _ => exact .inl ⟨rfl, op_snd rfl (hd 5 rfl)⟩
          | 8, _, h => cases h
          | qi + 9, h, _ => omega
        · intro vs X8 hb hv hal hne
          have HL0 := Hd.mk (HE.out.lt)
          have HBW := HB
          replace HB := Hd.mk (bel_then HB.out hb)
          replace HE : Hd (Env X8 [⟨w.heap.size, 24, [.int .i64 Wd, .int .i64 Ht, .slice A xs.length k]⟩, ⟨w.heap.size + 1, 26, [.int .i64 a.x, .int .i64 a.y, .int .i64 a.t, .bool a.f]⟩, ⟨w.heap.size + 1 + 1, 26, [.int .i64 b.x, .int .i64 b.y, .int .i64 b.t, .bool b.f]⟩, ⟨w.heap.size + 1 + 1 + 1, 26, [.int .i64 c.x, .int .i64 c.y, .int .i64 c.t, .bool c.f]⟩, ⟨g13, 31, [.int .i64 a.x, .int .i64 a.y, .int .i64 a.t, .bool a.f]⟩, ⟨g14, 31, [.int .i64 b.x, .int .i64 b.y, .int .i64 b.t, .bool b.f]⟩, ⟨g15, 31, [.int .i64 c.x, .int .i64 c.y, .int .i64 c.t, .bool c.f]⟩, ⟨g16, 31, [.int .i64 ((aftM Wd Ht a b).x), .int .i64 ((aftM Wd Ht a b).y), .int .i64 ((aftM Wd Ht a b).t), .bool ((aftM Wd Ht a b).f)]⟩]) := ⟨HE.out.to hb⟩
          have HLS := HL0
          have e111 : vs 111 = .agg #[.int .i64 ((aftM Wd Ht (aftM Wd Ht a b) c).x), .int .i64 ((aftM Wd Ht (aftM Wd Ht a b) c).y), .int .i64 ((aftM Wd Ht (aftM Wd Ht a b) c).t), .bool ((aftM Wd Ht (aftM Wd Ht a b) c).f)] := hv 6 (by decide) rfl
          have e112 : vs 112 = .int .i64 0 := hv 7 (by decide) rfl
          obtain ⟨g18, e18, l18, b18⟩ : ∃ g, vs 18 = .pointer (some ⟨g, 0, none⟩) ∧ _ := hal 8 rfl
          replace HE : Hd (Env X8 [⟨w.heap.size, 24, [.int .i64 Wd, .int .i64 Ht, .slice A xs.length k]⟩, ⟨w.heap.size + 1, 26, [.int .i64 a.x, .int .i64 a.y, .int .i64 a.t, .bool a.f]⟩, ⟨w.heap.size + 1 + 1, 26, [.int .i64 b.x, .int .i64 b.y, .int .i64 b.t, .bool b.f]⟩, ⟨w.heap.size + 1 + 1 + 1, 26, [.int .i64 c.x, .int .i64 c.y, .int .i64 c.t, .bool c.f]⟩, ⟨g13, 31, [.int .i64 a.x, .int .i64 a.y, .int .i64 a.t, .bool a.f]⟩, ⟨g14, 31, [.int .i64 b.x, .int .i64 b.y, .int .i64 b.t, .bool b.f]⟩, ⟨g15, 31, [.int .i64 c.x, .int .i64 c.y, .int .i64 c.t, .bool c.f]⟩, ⟨g16, 31, [.int .i64 ((aftM Wd Ht a b).x), .int .i64 ((aftM Wd Ht a b).y), .int .i64 ((aftM Wd Ht a b).t), .bool ((aftM Wd Ht a b).f)]⟩, ⟨g18, 31, [.int .i64 0, .int .i64 0, .int .i64 0, .bool false]⟩]) := ⟨Env.addne (e := ⟨g18, 31, [.int .i64 0, .int .i64 0, .int .i64 0, .bool false]⟩) HE.out b18 (fun e' he => Nat.ne_of_lt (Nat.lt_of_lt_of_le (HL0.out e' he) l18))⟩
          have G18 : Hd (w.heap.size ≤ g18) := ⟨Nat.le_trans HBW.out.size l18⟩
          simp only [putAll, List.foldl_cons, List.foldl_nil, Act.put, List.setIfInBounds_toArray, List.set_cons_succ, List.set_cons_zero, List.drop_succ_cons, List.drop_zero, e111, e112, e18]
          generalize vs 106 = s106
          generalize vs 107 = s107
          generalize vs 108 = s108
          generalize vs 109 = s109
          generalize vs 110 = s110
          generalize vs 105 = s105
          clear hv hal hne hb HL0 HBW HLS e111 e112 e18 l18 b18
          refine wpList_st rfl rfl rfl rfl rfl (sto_M (HE.out.get 8 rfl)) ?_
          have HE' : Env (putL X8 g18 0 [.int .i64 ((aftM Wd Ht (aftM Wd Ht a b) c).x), .int .i64 ((aftM Wd Ht (aftM Wd Ht a b) c).y), .int .i64 ((aftM Wd Ht (aftM Wd Ht a b) c).t), .bool ((aftM Wd Ht (aftM Wd Ht a b) c).f)]) [⟨w.heap.size, 24, [.int .i64 Wd, .int .i64 Ht, .slice A xs.length k]⟩, ⟨w.heap.size + 1, 26, [.int .i64 a.x, .int .i64 a.y, .int .i64 a.t, .bool a.f]⟩, ⟨w.heap.size + 1 + 1, 26, [.int .i64 b.x, .int .i64 b.y, .int .i64 b.t, .bool b.f]⟩, ⟨w.heap.size + 1 + 1 + 1, 26, [.int .i64 c.x, .int .i64 c.y, .int .i64 c.t, .bool c.f]⟩, ⟨g13, 31, [.int .i64 a.x, .int .i64 a.y, .int .i64 a.t, .bool a.f]⟩, ⟨g14, 31, [.int .i64 b.x, .int .i64 b.y, .int .i64 b.t, .bool b.f]⟩, ⟨g15, 31, [.int .i64 c.x, .int .i64 c.y, .int .i64 c.t, .bool c.f]⟩, ⟨g16, 31, [.int .i64 ((aftM Wd Ht a b).x), .int .i64 ((aftM Wd Ht a b).y), .int .i64 ((aftM Wd Ht a b).t), .bool ((aftM Wd Ht a b).f)]⟩, ⟨g18, 31, [.int .i64 ((aftM Wd Ht (aftM Wd Ht a b) c).x), .int .i64 ((aftM Wd Ht (aftM Wd Ht a b) c).y), .int .i64 ((aftM Wd Ht (aftM Wd Ht a b) c).t), .bool ((aftM Wd Ht (aftM Wd Ht a b) c).f)]⟩] := HE.out.putF 8 rfl rfl
          have HB' := putL_below (show w.heap.size ≤ g18 from G18.out) [.int .i64 ((aftM Wd Ht (aftM Wd Ht a b) c).x), .int .i64 ((aftM Wd Ht (aftM Wd Ht a b) c).y), .int .i64 ((aftM Wd Ht (aftM Wd Ht a b) c).t), .bool ((aftM Wd Ht (aftM Wd Ht a b) c).f)] _ 0 HB.out
          generalize putL X8 g18 0 [.int .i64 ((aftM Wd Ht (aftM Wd Ht a b) c).x), .int .i64 ((aftM Wd Ht (aftM Wd Ht a b) c).y), .int .i64 ((aftM Wd Ht (aftM Wd Ht a b) c).t), .bool ((aftM Wd Ht (aftM Wd Ht a b) c).f)] = X9 at *
          replace HE := Hd.mk HE'
          replace HB := Hd.mk HB'
          clear HE' HB'
          go_upto_region 7 with fail
          refine wp_region_vd 9 [114, 115, 116, 117, 118, 113, 119, 120, 20] [0, 1, 5, 6, 7] [8] 31 [.int .i64 0, .int .i64 0, .int .i64 0, .bool false] [isV (.int .i64 Wd), isV (.int .i64 Ht), isV (.agg #[.int .i64 b.x, .int .i64 b.y, .int .i64 b.t, .bool b.f]), isV (.agg #[.int .i64 c.x, .int .i64 c.y, .int .i64 c.t, .bool c.f]), isP (isV (.agg #[.int .i64 ((aftM Wd Ht b c).x), .int .i64 ((aftM Wd Ht b c).y), .int .i64 ((aftM Wd Ht b c).t), .bool ((aftM Wd Ht b c).f)])) (isV (.int .i64 0)), isP (isV (.agg #[.int .i64 ((aftM Wd Ht b c).x), .int .i64 ((aftM Wd Ht b c).y), .int .i64 ((aftM Wd Ht b c).t), .bool ((aftM Wd Ht b c).f)])) (isV (.int .i64 0)), isV (.agg #[.int .i64 ((aftM Wd Ht b c).x), .int .i64 ((aftM Wd Ht b c).y), .int .i64 ((aftM Wd Ht b c).t), .bool ((aftM Wd Ht b c).f)]), isV (.int .i64 0), SP.any] (by rfl) alloc_M ?_ ?_
          · intro qi qh qA aa wx hb hs hd
            match qi, qh, qA with
            | 0, _, _ => exact .inl ⟨rfl, op_mv rfl (hs 11 rfl)⟩
            | 1, _, _ => exact .inl ⟨rfl, op_mv rfl (hs 12 rfl)⟩
            | 2, _, _ => exact .inl ⟨rfl, op_ldM rfl rfl (hs 14 rfl) ((HE.out.to hb).get 5 rfl)⟩
            | 3, _, _ => exact .inl ⟨rfl, op_ldM rfl rfl (hs 15 rfl) ((HE.out.to hb).get 6 rfl)⟩
            | 4, _, _ => exact .inl ⟨rfl, op_call4 rfl rfl Try.call23 (by rw [show aa.eval (.tmp 114) = .int .i64 Wd from (hd 0 rfl), show aa.eval (.tmp 115) = .int .i64 Ht from (hd 1 rfl), show aa.eval (.tmp 116) = .agg #[.int .i64 b.x, .int .i64 b.y, .int .i64 b.t, .bool b.f] from (hd 2 rfl), show aa.eval (.tmp 117) = .agg #[.int .i64 c.x, .int .i64 c.y, .int .i64 c.t, .bool c.f] from (hd 3 rfl)]; exact After_m HB2.out HC.out _)⟩
            | 5, _, _ => exact .inl ⟨rfl, op_mv rfl (hd 4 rfl)⟩
            | 6, _, _ => exact .inl ⟨rfl, op_fst rfl (hd 5 rfl)⟩
            | 7, _, _ => exact .inl ⟨rfl, op_snd rfl (hd 5 rfl)⟩
            | 8, _, h => cases h
            | qi + 9, h, _ => omega
          · intro vs X10 hb hv hal hne
            have HL0 := Hd.mk (HE.out.lt)
            have HBW := HB
            replace HB := Hd.mk (bel_then HB.out hb)
            replace HE : Hd (Env X10 [⟨w.heap.size, 24, [.int .i64 Wd, .int .i64 Ht, .slice A xs.length k]⟩, ⟨w.heap.size + 1, 26, [.int .i64 a.x, .int .i64 a.y, .int .i64 a.t, .bool a.f]⟩, ⟨w.heap.size + 1 + 1, 26, [.int .i64 b.x, .int .i64 b.y, .int .i64 b.t, .bool b.f]⟩, ⟨w.heap.size + 1 + 1 + 1, 26, [.int .i64 c.x, .int .i64 c.y, .int .i64 c.t, .bool c.f]⟩, ⟨g13, 31, [.int .i64 a.x, .int .i64 a.y, .int .i64 a.t, .bool a.f]⟩, ⟨g14, 31, [.int .i64 b.x, .int .i64 b.y, .int .i64 b.t, .bool b.f]⟩, ⟨g15, 31, [.int .i64 c.x, .int .i64 c.y, .int .i64 c.t, .bool c.f]⟩, ⟨g16, 31, [.int .i64 ((aftM Wd Ht a b).x), .int .i64 ((aftM Wd Ht a b).y), .int .i64 ((aftM Wd Ht a b).t), .bool ((aftM Wd Ht a b).f)]⟩, ⟨g18, 31, [.int .i64 ((aftM Wd Ht (aftM Wd Ht a b) c).x), .int .i64 ((aftM Wd Ht (aftM Wd Ht a b) c).y), .int .i64 ((aftM Wd Ht (aftM Wd Ht a b) c).t), .bool ((aftM Wd Ht (aftM Wd Ht a b) c).f)]⟩]) := ⟨HE.out.to hb⟩
            have HLS := HL0
            have e119 : vs 119 = .agg #[.int .i64 ((aftM Wd Ht b c).x), .int .i64 ((aftM Wd Ht b c).y), .int .i64 ((aftM Wd Ht b c).t), .bool ((aftM Wd Ht b c).f)] := hv 6 (by decide) rfl
            have e120 : vs 120 = .int .i64 0 := hv 7 (by decide) rfl
            obtain ⟨g20, e20, l20, b20⟩ : ∃ g, vs 20 = .pointer (some ⟨g, 0, none⟩) ∧ _ := hal 8 rfl
            replace HE : Hd (Env X10 [⟨w.heap.size, 24, [.int .i64 Wd, .int .i64 Ht, .slice A xs.length k]⟩, ⟨w.heap.size + 1, 26, [.int .i64 a.x, .int .i64 a.y, .int .i64 a.t, .bool a.f]⟩, ⟨w.heap.size + 1 + 1, 26, [.int .i64 b.x, .int .i64 b.y, .int .i64 b.t, .bool b.f]⟩, ⟨w.heap.size + 1 + 1 + 1, 26, [.int .i64 c.x, .int .i64 c.y, .int .i64 c.t, .bool c.f]⟩, ⟨g13, 31, [.int .i64 a.x, .int .i64 a.y, .int .i64 a.t, .bool a.f]⟩, ⟨g14, 31, [.int .i64 b.x, .int .i64 b.y, .int .i64 b.t, .bool b.f]⟩, ⟨g15, 31, [.int .i64 c.x, .int .i64 c.y, .int .i64 c.t, .bool c.f]⟩, ⟨g16, 31, [.int .i64 ((aftM Wd Ht a b).x), .int .i64 ((aftM Wd Ht a b).y), .int .i64 ((aftM Wd Ht a b).t), .bool ((aftM Wd Ht a b).f)]⟩, ⟨g18, 31, [.int .i64 ((aftM Wd Ht (aftM Wd Ht a b) c).x), .int .i64 ((aftM Wd Ht (aftM Wd Ht a b) c).y), .int .i64 ((aftM Wd Ht (aftM Wd Ht a b) c).t), .bool ((aftM Wd Ht (aftM Wd Ht a b) c).f)]⟩, ⟨g20, 31, [.int .i64 0, .int .i64 0, .int .i64 0, .bool false]⟩]) := ⟨Env.addne (e := ⟨g20, 31, [.int .i64 0, .int .i64 0, .int .i64 0, .bool false]⟩) HE.out b20 (fun e' he => Nat.ne_of_lt (Nat.lt_of_lt_of_le (HL0.out e' he) l20))⟩
            have G20 : Hd (w.heap.size ≤ g20) := ⟨Nat.le_trans HBW.out.size l20⟩
            simp only [putAll, List.foldl_cons, List.foldl_nil, Act.put, List.setIfInBounds_toArray, List.set_cons_succ, List.set_cons_zero, List.drop_succ_cons, List.drop_zero, e119, e120, e20]
            generalize vs 114 = s114
            generalize vs 115 = s115
            generalize vs 116 = s116
            generalize vs 117 = s117
            generalize vs 118 = s118
            generalize vs 113 = s113
            clear hv hal hne hb HL0 HBW HLS e119 e120 e20 l20 b20
            refine wpList_st rfl rfl rfl rfl rfl (sto_M (HE.out.get 9 rfl)) ?_
            have HE' : Env (putL X10 g20 0 [.int .i64 ((aftM Wd Ht b c).x), .int .i64 ((aftM Wd Ht b c).y), .int .i64 ((aftM Wd Ht b c).t), .bool ((aftM Wd Ht b c).f)]) [⟨w.heap.size, 24, [.int .i64 Wd, .int .i64 Ht, .slice A xs.length k]⟩, ⟨w.heap.size + 1, 26, [.int .i64 a.x, .int .i64 a.y, .int .i64 a.t, .bool a.f]⟩, ⟨w.heap.size + 1 + 1, 26, [.int .i64 b.x, .int .i64 b.y, .int .i64 b.t, .bool b.f]⟩, ⟨w.heap.size + 1 + 1 + 1, 26, [.int .i64 c.x, .int .i64 c.y, .int .i64 c.t, .bool c.f]⟩, ⟨g13, 31, [.int .i64 a.x, .int .i64 a.y, .int .i64 a.t, .bool a.f]⟩, ⟨g14, 31, [.int .i64 b.x, .int .i64 b.y, .int .i64 b.t, .bool b.f]⟩, ⟨g15, 31, [.int .i64 c.x, .int .i64 c.y, .int .i64 c.t, .bool c.f]⟩, ⟨g16, 31, [.int .i64 ((aftM Wd Ht a b).x), .int .i64 ((aftM Wd Ht a b).y), .int .i64 ((aftM Wd Ht a b).t), .bool ((aftM Wd Ht a b).f)]⟩, ⟨g18, 31, [.int .i64 ((aftM Wd Ht (aftM Wd Ht a b) c).x), .int .i64 ((aftM Wd Ht (aftM Wd Ht a b) c).y), .int .i64 ((aftM Wd Ht (aftM Wd Ht a b) c).t), .bool ((aftM Wd Ht (aftM Wd Ht a b) c).f)]⟩, ⟨g20, 31, [.int .i64 ((aftM Wd Ht b c).x), .int .i64 ((aftM Wd Ht b c).y), .int .i64 ((aftM Wd Ht b c).t), .bool ((aftM Wd Ht b c).f)]⟩] := HE.out.putF 9 rfl rfl
            have HB' := putL_below (show w.heap.size ≤ g20 from G20.out) [.int .i64 ((aftM Wd Ht b c).x), .int .i64 ((aftM Wd Ht b c).y), .int .i64 ((aftM Wd Ht b c).t), .bool ((aftM Wd Ht b c).f)] _ 0 HB.out
            generalize putL X10 g20 0 [.int .i64 ((aftM Wd Ht b c).x), .int .i64 ((aftM Wd Ht b c).y), .int .i64 ((aftM Wd Ht b c).t), .bool ((aftM Wd Ht b c).f)] = X11 at *
            replace HE := Hd.mk HE'
            replace HB := Hd.mk HB'
            clear HE' HB'
            go_upto_region 8 with fail
            refine wp_region_vd 9 [122, 123, 124, 125, 126, 121, 127, 128, 22] [0, 1, 5, 6, 7] [8] 31 [.int .i64 0, .int .i64 0, .int .i64 0, .bool false] [isV (.int .i64 Wd), isV (.int .i64 Ht), isV (.agg #[.int .i64 a.x, .int .i64 a.y, .int .i64 a.t, .bool a.f]), isV (.agg #[.int .i64 ((aftM Wd Ht b c).x), .int .i64 ((aftM Wd Ht b c).y), .int .i64 ((aftM Wd Ht b c).t), .bool ((aftM Wd Ht b c).f)]), isP (isV (.agg #[.int .i64 ((aftM Wd Ht (aftM Wd Ht a b) c).x), .int .i64 ((aftM Wd Ht (aftM Wd Ht a b) c).y), .int .i64 ((aftM Wd Ht (aftM Wd Ht a b) c).t), .bool ((aftM Wd Ht (aftM Wd Ht a b) c).f)])) (isV (.int .i64 0)), isP (isV (.agg #[.int .i64 ((aftM Wd Ht (aftM Wd Ht a b) c).x), .int .i64 ((aftM Wd Ht (aftM Wd Ht a b) c).y), .int .i64 ((aftM Wd Ht (aftM Wd Ht a b) c).t), .bool ((aftM Wd Ht (aftM Wd Ht a b) c).f)])) (isV (.int .i64 0)), isV (.agg #[.int .i64 ((aftM Wd Ht (aftM Wd Ht a b) c).x), .int .i64 ((aftM Wd Ht (aftM Wd Ht a b) c).y), .int .i64 ((aftM Wd Ht (aftM Wd Ht a b) c).t), .bool ((aftM Wd Ht (aftM Wd Ht a b) c).f)]), isV (.int .i64 0), SP.any] (by rfl) alloc_M ?_ ?_
            · intro qi qh qA aa wx hb hs hd
              match qi, qh, qA with
              | 0, _, _ => exact .inl ⟨rfl, op_mv rfl (hs 11 rfl)⟩
              | 1, _, _ => exact .inl ⟨rfl, op_mv rfl (hs 12 rfl)⟩
              | 2, _, _ => exact .inl ⟨rfl, op_ldM rfl rfl (hs 13 rfl) ((HE.out.to hb).get 4 rfl)⟩
              | 3, _, _ => exact .inl ⟨rfl, op_ldM rfl rfl (hs 20 rfl) ((HE.out.to hb).get 9 rfl)⟩
              | 4, _, _ => exact .inl ⟨rfl, op_call4 rfl rfl Try.call23 (by rw [show aa.eval (.tmp 122) = .int .i64 Wd from (hd 0 rfl), show aa.eval (.tmp 123) = .int .i64 Ht from (hd 1 rfl), show aa.eval (.tmp 124) = .agg #[.int .i64 a.x, .int .i64 a.y, .int .i64 a.t, .bool a.f] from (hd 2 rfl), show aa.eval (.tmp 125) = .agg #[.int .i64 ((aftM Wd Ht b c).x), .int .i64 ((aftM Wd Ht b c).y), .int .i64 ((aftM Wd Ht b c).t), .bool ((aftM Wd Ht b c).f)] from (hd 3 rfl)]; exact After_e HA.out (aft_al HB2.out HC.out) (aft_assoc HA.out HB2.out HC.out).symm _)⟩
              | 5, _, _ => exact .inl ⟨rfl, op_mv rfl (hd 4 rfl)⟩
              | 6, _, _ => exact .inl ⟨rfl, op_fst rfl (hd 5 rfl)⟩
              | 7, _, _ => exact .inl ⟨rfl, op_snd rfl (hd 5 rfl)⟩
              | 8, _, h => cases h
              | qi + 9, h, _ => omega
            · intro vs X12 hb hv hal hne
              have HL0 := Hd.mk (HE.out.lt)
              have HBW := HB
              replace HB := Hd.mk (bel_then HB.out hb)
              replace HE : Hd (Env X12 [⟨w.heap.size, 24, [.int .i64 Wd, .int .i64 Ht, .slice A xs.length k]⟩, ⟨w.heap.size + 1, 26, [.int .i64 a.x, .int .i64 a.y, .int .i64 a.t, .bool a.f]⟩, ⟨w.heap.size + 1 + 1, 26, [.int .i64 b.x, .int .i64 b.y, .int .i64 b.t, .bool b.f]⟩, ⟨w.heap.size + 1 + 1 + 1, 26, [.int .i64 c.x, .int .i64 c.y, .int .i64 c.t, .bool c.f]⟩, ⟨g13, 31, [.int .i64 a.x, .int .i64 a.y, .int .i64 a.t, .bool a.f]⟩, ⟨g14, 31, [.int .i64 b.x, .int .i64 b.y, .int .i64 b.t, .bool b.f]⟩, ⟨g15, 31, [.int .i64 c.x, .int .i64 c.y, .int .i64 c.t, .bool c.f]⟩, ⟨g16, 31, [.int .i64 ((aftM Wd Ht a b).x), .int .i64 ((aftM Wd Ht a b).y), .int .i64 ((aftM Wd Ht a b).t), .bool ((aftM Wd Ht a b).f)]⟩, ⟨g18, 31, [.int .i64 ((aftM Wd Ht (aftM Wd Ht a b) c).x), .int .i64 ((aftM Wd Ht (aftM Wd Ht a b) c).y), .int .i64 ((aftM Wd Ht (aftM Wd Ht a b) c).t), .bool ((aftM Wd Ht (aftM Wd Ht a b) c).f)]⟩, ⟨g20, 31, [.int .i64 ((aftM Wd Ht b c).x), .int .i64 ((aftM Wd Ht b c).y), .int .i64 ((aftM Wd Ht b c).t), .bool ((aftM Wd Ht b c).f)]⟩]) := ⟨HE.out.to hb⟩
              have HLS := HL0
              have e127 : vs 127 = .agg #[.int .i64 ((aftM Wd Ht (aftM Wd Ht a b) c).x), .int .i64 ((aftM Wd Ht (aftM Wd Ht a b) c).y), .int .i64 ((aftM Wd Ht (aftM Wd Ht a b) c).t), .bool ((aftM Wd Ht (aftM Wd Ht a b) c).f)] := hv 6 (by decide) rfl
              have e128 : vs 128 = .int .i64 0 := hv 7 (by decide) rfl
              obtain ⟨g22, e22, l22, b22⟩ : ∃ g, vs 22 = .pointer (some ⟨g, 0, none⟩) ∧ _ := hal 8 rfl
              replace HE : Hd (Env X12 [⟨w.heap.size, 24, [.int .i64 Wd, .int .i64 Ht, .slice A xs.length k]⟩, ⟨w.heap.size + 1, 26, [.int .i64 a.x, .int .i64 a.y, .int .i64 a.t, .bool a.f]⟩, ⟨w.heap.size + 1 + 1, 26, [.int .i64 b.x, .int .i64 b.y, .int .i64 b.t, .bool b.f]⟩, ⟨w.heap.size + 1 + 1 + 1, 26, [.int .i64 c.x, .int .i64 c.y, .int .i64 c.t, .bool c.f]⟩, ⟨g13, 31, [.int .i64 a.x, .int .i64 a.y, .int .i64 a.t, .bool a.f]⟩, ⟨g14, 31, [.int .i64 b.x, .int .i64 b.y, .int .i64 b.t, .bool b.f]⟩, ⟨g15, 31, [.int .i64 c.x, .int .i64 c.y, .int .i64 c.t, .bool c.f]⟩, ⟨g16, 31, [.int .i64 ((aftM Wd Ht a b).x), .int .i64 ((aftM Wd Ht a b).y), .int .i64 ((aftM Wd Ht a b).t), .bool ((aftM Wd Ht a b).f)]⟩, ⟨g18, 31, [.int .i64 ((aftM Wd Ht (aftM Wd Ht a b) c).x), .int .i64 ((aftM Wd Ht (aftM Wd Ht a b) c).y), .int .i64 ((aftM Wd Ht (aftM Wd Ht a b) c).t), .bool ((aftM Wd Ht (aftM Wd Ht a b) c).f)]⟩, ⟨g20, 31, [.int .i64 ((aftM Wd Ht b c).x), .int .i64 ((aftM Wd Ht b c).y), .int .i64 ((aftM Wd Ht b c).t), .bool ((aftM Wd Ht b c).f)]⟩, ⟨g22, 31, [.int .i64 0, .int .i64 0, .int .i64 0, .bool false]⟩]) := ⟨Env.addne (e := ⟨g22, 31, [.int .i64 0, .int .i64 0, .int .i64 0, .bool false]⟩) HE.out b22 (fun e' he => Nat.ne_of_lt (Nat.lt_of_lt_of_le (HL0.out e' he) l22))⟩
              have G22 : Hd (w.heap.size ≤ g22) := ⟨Nat.le_trans HBW.out.size l22⟩
              simp only [putAll, List.foldl_cons, List.foldl_nil, Act.put, List.setIfInBounds_toArray, List.set_cons_succ, List.set_cons_zero, List.drop_succ_cons, List.drop_zero, e127, e128, e22]
              generalize vs 122 = s122
              generalize vs 123 = s123
              generalize vs 124 = s124
              generalize vs 125 = s125
              generalize vs 126 = s126
              generalize vs 121 = s121
              clear hv hal hne hb HL0 HBW HLS e127 e128 e22 l22 b22
              refine wpList_st rfl rfl rfl rfl rfl (sto_M (HE.out.get 10 rfl)) ?_
              have HE' : Env (putL X12 g22 0 [.int .i64 ((aftM Wd Ht (aftM Wd Ht a b) c).x), .int .i64 ((aftM Wd Ht (aftM Wd Ht a b) c).y), .int .i64 ((aftM Wd Ht (aftM Wd Ht a b) c).t), .bool ((aftM Wd Ht (aftM Wd Ht a b) c).f)]) [⟨w.heap.size, 24, [.int .i64 Wd, .int .i64 Ht, .slice A xs.length k]⟩, ⟨w.heap.size + 1, 26, [.int .i64 a.x, .int .i64 a.y, .int .i64 a.t, .bool a.f]⟩, ⟨w.heap.size + 1 + 1, 26, [.int .i64 b.x, .int .i64 b.y, .int .i64 b.t, .bool b.f]⟩, ⟨w.heap.size + 1 + 1 + 1, 26, [.int .i64 c.x, .int .i64 c.y, .int .i64 c.t, .bool c.f]⟩, ⟨g13, 31, [.int .i64 a.x, .int .i64 a.y, .int .i64 a.t, .bool a.f]⟩, ⟨g14, 31, [.int .i64 b.x, .int .i64 b.y, .int .i64 b.t, .bool b.f]⟩, ⟨g15, 31, [.int .i64 c.x, .int .i64 c.y, .int .i64 c.t, .bool c.f]⟩, ⟨g16, 31, [.int .i64 ((aftM Wd Ht a b).x), .int .i64 ((aftM Wd Ht a b).y), .int .i64 ((aftM Wd Ht a b).t), .bool ((aftM Wd Ht a b).f)]⟩, ⟨g18, 31, [.int .i64 ((aftM Wd Ht (aftM Wd Ht a b) c).x), .int .i64 ((aftM Wd Ht (aftM Wd Ht a b) c).y), .int .i64 ((aftM Wd Ht (aftM Wd Ht a b) c).t), .bool ((aftM Wd Ht (aftM Wd Ht a b) c).f)]⟩, ⟨g20, 31, [.int .i64 ((aftM Wd Ht b c).x), .int .i64 ((aftM Wd Ht b c).y), .int .i64 ((aftM Wd Ht b c).t), .bool ((aftM Wd Ht b c).f)]⟩, ⟨g22, 31, [.int .i64 ((aftM Wd Ht (aftM Wd Ht a b) c).x), .int .i64 ((aftM Wd Ht (aftM Wd Ht a b) c).y), .int .i64 ((aftM Wd Ht (aftM Wd Ht a b) c).t), .bool ((aftM Wd Ht (aftM Wd Ht a b) c).f)]⟩] := HE.out.putF 10 rfl rfl
              have HB' := putL_below (show w.heap.size ≤ g22 from G22.out) [.int .i64 ((aftM Wd Ht (aftM Wd Ht a b) c).x), .int .i64 ((aftM Wd Ht (aftM Wd Ht a b) c).y), .int .i64 ((aftM Wd Ht (aftM Wd Ht a b) c).t), .bool ((aftM Wd Ht (aftM Wd Ht a b) c).f)] _ 0 HB.out
              generalize putL X12 g22 0 [.int .i64 ((aftM Wd Ht (aftM Wd Ht a b) c).x), .int .i64 ((aftM Wd Ht (aftM Wd Ht a b) c).y), .int .i64 ((aftM Wd Ht (aftM Wd Ht a b) c).t), .bool ((aftM Wd Ht (aftM Wd Ht a b) c).f)] = X13 at *
              replace HE := Hd.mk HE'
              replace HB := Hd.mk HB'
              clear HE' HB'
              go_upto_region 9 with fail
              refine wp_region_vd 8 [130, 131, 132, 133, 129, 134, 135, 24] [0, 1, 4, 5, 6] [7] 31 [.int .i64 0, .int .i64 0, .int .i64 0, .bool false] [isV (.int .i64 Wd), isV (.int .i64 Ht), isV (.agg #[.int .i64 a.x, .int .i64 a.y, .int .i64 a.t, .bool a.f]), isP (isV (.agg #[.int .i64 ((invM Wd Ht a).x), .int .i64 ((invM Wd Ht a).y), .int .i64 ((invM Wd Ht a).t), .bool ((invM Wd Ht a).f)])) (isV (.int .i64 0)), isP (isV (.agg #[.int .i64 ((invM Wd Ht a).x), .int .i64 ((invM Wd Ht a).y), .int .i64 ((invM Wd Ht a).t), .bool ((invM Wd Ht a).f)])) (isV (.int .i64 0)), isV (.agg #[.int .i64 ((invM Wd Ht a).x), .int .i64 ((invM Wd Ht a).y), .int .i64 ((invM Wd Ht a).t), .bool ((invM Wd Ht a).f)]), isV (.int .i64 0), SP.any] (by rfl) alloc_M ?_ ?_
              · intro qi qh qA aa wx hb hs hd
                match qi, qh, qA with
                | 0, _, _ => exact .inl ⟨rfl, op_mv rfl (hs 11 rfl)⟩
                | 1, _, _ => exact .inl ⟨rfl, op_mv rfl (hs 12 rfl)⟩
                | 2, _, _ => exact .inl ⟨rfl, op_ldM rfl rfl (hs 13 rfl) ((HE.out.to hb).get 4 rfl)⟩
                | 3, _, _ => exact .inl ⟨rfl, op_call3 rfl rfl Try.call24 (by rw [show aa.eval (.tmp 130) = .int .i64 Wd from (hd 0 rfl), show aa.eval (.tmp 131) = .int .i64 Ht from (hd 1 rfl), show aa.eval (.tmp 132) = .agg #[.int .i64 a.x, .int .i64 a.y, .int .i64 a.t, .bool a.f] from (hd 2 rfl)]; exact Inverse_m HA.out _)⟩
                | 4, _, _ => exact .inl ⟨rfl, op_mv rfl (hd 3 rfl)⟩
                | 5, _, _ => exact .inl ⟨rfl, op_fst rfl (hd 4 rfl)⟩
                | 6, _, _ => exact .inl ⟨rfl, op_snd rfl (hd 4 rfl)⟩
                | 7, _, h => cases h
                | qi + 8, h, _ => omega
              · intro vs X14 hb hv hal hne
                have HL0 := Hd.mk (HE.out.lt)
                have HBW := HB
                replace HB := Hd.mk (bel_then HB.out hb)
                replace HE : Hd (Env X14 [⟨w.heap.size, 24, [.int .i64 Wd, .int .i64 Ht, .slice A xs.length k]⟩, ⟨w.heap.size + 1, 26, [.int .i64 a.x, .int .i64 a.y, .int .i64 a.t, .bool a.f]⟩, ⟨w.heap.size + 1 + 1, 26, [.int .i64 b.x, .int .i64 b.y, .int .i64 b.t, .bool b.f]⟩, ⟨w.heap.size + 1 + 1 + 1, 26, [.int .i64 c.x, .int .i64 c.y, .int .i64 c.t, .bool c.f]⟩, ⟨g13, 31, [.int .i64 a.x, .int .i64 a.y, .int .i64 a.t, .bool a.f]⟩, ⟨g14, 31, [.int .i64 b.x, .int .i64 b.y, .int .i64 b.t, .bool b.f]⟩, ⟨g15, 31, [.int .i64 c.x, .int .i64 c.y, .int .i64 c.t, .bool c.f]⟩, ⟨g16, 31, [.int .i64 ((aftM Wd Ht a b).x), .int .i64 ((aftM Wd Ht a b).y), .int .i64 ((aftM Wd Ht a b).t), .bool ((aftM Wd Ht a b).f)]⟩, ⟨g18, 31, [.int .i64 ((aftM Wd Ht (aftM Wd Ht a b) c).x), .int .i64 ((aftM Wd Ht (aftM Wd Ht a b) c).y), .int .i64 ((aftM Wd Ht (aftM Wd Ht a b) c).t), .bool ((aftM Wd Ht (aftM Wd Ht a b) c).f)]⟩, ⟨g20, 31, [.int .i64 ((aftM Wd Ht b c).x), .int .i64 ((aftM Wd Ht b c).y), .int .i64 ((aftM Wd Ht b c).t), .bool ((aftM Wd Ht b c).f)]⟩, ⟨g22, 31, [.int .i64 ((aftM Wd Ht (aftM Wd Ht a b) c).x), .int .i64 ((aftM Wd Ht (aftM Wd Ht a b) c).y), .int .i64 ((aftM Wd Ht (aftM Wd Ht a b) c).t), .bool ((aftM Wd Ht (aftM Wd Ht a b) c).f)]⟩]) := ⟨HE.out.to hb⟩
                have HLS := HL0
                have e134 : vs 134 = .agg #[.int .i64 ((invM Wd Ht a).x), .int .i64 ((invM Wd Ht a).y), .int .i64 ((invM Wd Ht a).t), .bool ((invM Wd Ht a).f)] := hv 5 (by decide) rfl
                have e135 : vs 135 = .int .i64 0 := hv 6 (by decide) rfl
                obtain ⟨g24, e24, l24, b24⟩ : ∃ g, vs 24 = .pointer (some ⟨g, 0, none⟩) ∧ _ := hal 7 rfl
                replace HE : Hd (Env X14 [⟨w.heap.size, 24, [.int .i64 Wd, .int .i64 Ht, .slice A xs.length k]⟩, ⟨w.heap.size + 1, 26, [.int .i64 a.x, .int .i64 a.y, .int .i64 a.t, .bool a.f]⟩, ⟨w.heap.size + 1 + 1, 26, [.int .i64 b.x, .int .i64 b.y, .int .i64 b.t, .bool b.f]⟩, ⟨w.heap.size + 1 + 1 + 1, 26, [.int .i64 c.x, .int .i64 c.y, .int .i64 c.t, .bool c.f]⟩, ⟨g13, 31, [.int .i64 a.x, .int .i64 a.y, .int .i64 a.t, .bool a.f]⟩, ⟨g14, 31, [.int .i64 b.x, .int .i64 b.y, .int .i64 b.t, .bool b.f]⟩, ⟨g15, 31, [.int .i64 c.x, .int .i64 c.y, .int .i64 c.t, .bool c.f]⟩, ⟨g16, 31, [.int .i64 ((aftM Wd Ht a b).x), .int .i64 ((aftM Wd Ht a b).y), .int .i64 ((aftM Wd Ht a b).t), .bool ((aftM Wd Ht a b).f)]⟩, ⟨g18, 31, [.int .i64 ((aftM Wd Ht (aftM Wd Ht a b) c).x), .int .i64 ((aftM Wd Ht (aftM Wd Ht a b) c).y), .int .i64 ((aftM Wd Ht (aftM Wd Ht a b) c).t), .bool ((aftM Wd Ht (aftM Wd Ht a b) c).f)]⟩, ⟨g20, 31, [.int .i64 ((aftM Wd Ht b c).x), .int .i64 ((aftM Wd Ht b c).y), .int .i64 ((aftM Wd Ht b c).t), .bool ((aftM Wd Ht b c).f)]⟩, ⟨g22, 31, [.int .i64 ((aftM Wd Ht (aftM Wd Ht a b) c).x), .int .i64 ((aftM Wd Ht (aftM Wd Ht a b) c).y), .int .i64 ((aftM Wd Ht (aftM Wd Ht a b) c).t), .bool ((aftM Wd Ht (aftM Wd Ht a b) c).f)]⟩, ⟨g24, 31, [.int .i64 0, .int .i64 0, .int .i64 0, .bool false]⟩]) := ⟨Env.addne (e := ⟨g24, 31, [.int .i64 0, .int .i64 0, .int .i64 0, .bool false]⟩) HE.out b24 (fun e' he => Nat.ne_of_lt (Nat.lt_of_lt_of_le (HL0.out e' he) l24))⟩
                have G24 : Hd (w.heap.size ≤ g24) := ⟨Nat.le_trans HBW.out.size l24⟩
                simp only [putAll, List.foldl_cons, List.foldl_nil, Act.put, List.setIfInBounds_toArray, List.set_cons_succ, List.set_cons_zero, List.drop_succ_cons, List.drop_zero, e134, e135, e24]
                generalize vs 130 = s130
                generalize vs 131 = s131
                generalize vs 132 = s132
                generalize vs 133 = s133
                generalize vs 129 = s129
                clear hv hal hne hb HL0 HBW HLS e134 e135 e24 l24 b24
                refine wpList_st rfl rfl rfl rfl rfl (sto_M (HE.out.get 11 rfl)) ?_
                have HE' : Env (putL X14 g24 0 [.int .i64 ((invM Wd Ht a).x), .int .i64 ((invM Wd Ht a).y), .int .i64 ((invM Wd Ht a).t), .bool ((invM Wd Ht a).f)]) [⟨w.heap.size, 24, [.int .i64 Wd, .int .i64 Ht, .slice A xs.length k]⟩, ⟨w.heap.size + 1, 26, [.int .i64 a.x, .int .i64 a.y, .int .i64 a.t, .bool a.f]⟩, ⟨w.heap.size + 1 + 1, 26, [.int .i64 b.x, .int .i64 b.y, .int .i64 b.t, .bool b.f]⟩, ⟨w.heap.size + 1 + 1 + 1, 26, [.int .i64 c.x, .int .i64 c.y, .int .i64 c.t, .bool c.f]⟩, ⟨g13, 31, [.int .i64 a.x, .int .i64 a.y, .int .i64 a.t, .bool a.f]⟩, ⟨g14, 31, [.int .i64 b.x, .int .i64 b.y, .int .i64 b.t, .bool b.f]⟩, ⟨g15, 31, [.int .i64 c.x, .int .i64 c.y, .int .i64 c.t, .bool c.f]⟩, ⟨g16, 31, [.int .i64 ((aftM Wd Ht a b).x), .int .i64 ((aftM Wd Ht a b).y), .int .i64 ((aftM Wd Ht a b).t), .bool ((aftM Wd Ht a b).f)]⟩, ⟨g18, 31, [.int .i64 ((aftM Wd Ht (aftM Wd Ht a b) c).x), .int .i64 ((aftM Wd Ht (aftM Wd Ht a b) c).y), .int .i64 ((aftM Wd Ht (aftM Wd Ht a b) c).t), .bool ((aftM Wd Ht (aftM Wd Ht a b) c).f)]⟩, ⟨g20, 31, [.int .i64 ((aftM Wd Ht b c).x), .int .i64 ((aftM Wd Ht b c).y), .int .i64 ((aftM Wd Ht b c).t), .bool ((aftM Wd Ht b c).f)]⟩, ⟨g22, 31, [.int .i64 ((aftM Wd Ht (aftM Wd Ht a b) c).x), .int .i64 ((aftM Wd Ht (aftM Wd Ht a b) c).y), .int .i64 ((aftM Wd Ht (aftM Wd Ht a b) c).t), .bool ((aftM Wd Ht (aftM Wd Ht a b) c).f)]⟩, ⟨g24, 31, [.int .i64 ((invM Wd Ht a).x), .int .i64 ((invM Wd Ht a).y), .int .i64 ((invM Wd Ht a).t), .bool ((invM Wd Ht a).f)]⟩] := HE.out.putF 11 rfl rfl
                have HB' := putL_below (show w.heap.size ≤ g24 from G24.out) [.int .i64 ((invM Wd Ht a).x), .int .i64 ((invM Wd Ht a).y), .int .i64 ((invM Wd Ht a).t), .bool ((invM Wd Ht a).f)] _ 0 HB.out
                generalize putL X14 g24 0 [.int .i64 ((invM Wd Ht a).x), .int .i64 ((invM Wd Ht a).y), .int .i64 ((invM Wd Ht a).t), .bool ((invM Wd Ht a).f)] = X15 at *
                replace HE := Hd.mk HE'
                replace HB := Hd.mk HB'
                clear HE' HB'
                go_upto_region 10 with fail
                refine wp_region_vd 9 [137, 138, 139, 140, 141, 136, 142, 143, 26] [0, 1, 5, 6, 7] [8] 31 [.int .i64 0, .int .i64 0, .int .i64 0, .bool false] [isV (.int .i64 Wd), isV (.int .i64 Ht), isV (.agg #[.int .i64 ((invM Wd Ht a).x), .int .i64 ((invM Wd Ht a).y), .int .i64 ((invM Wd Ht a).t), .bool ((invM Wd Ht a).f)]), isV (.agg #[.int .i64 a.x, .int .i64 a.y, .int .i64 a.t, .bool a.f]), isP (isV (.agg #[.int .i64 0, .int .i64 0, .int .i64 0, .bool false])) (isV (.int .i64 0)), isP (isV (.agg #[.int .i64 0, .int .i64 0, .int .i64 0, .bool false])) (isV (.int .i64 0)), isV (.agg #[.int .i64 0, .int .i64 0, .int .i64 0, .bool false]), isV (.int .i64 0), SP.any] (by rfl) alloc_M ?_ ?_
                · intro qi qh qA aa wx hb hs hd
                  match qi, qh, qA with
                  | 0, _, _ => exact .inl ⟨rfl, op_mv rfl (hs 11 rfl)⟩
                  | 1, _, _ => exact .inl ⟨rfl, op_mv rfl (hs 12 rfl)⟩
                  | 2, _, _ => exact .inl ⟨rfl, op_ldM rfl rfl (hs 24 rfl) ((HE.out.to hb).get 11 rfl)⟩
                  | 3, _, _ => exact .inl ⟨rfl, op_ldM rfl rfl (hs 13 rfl) ((HE.out.to hb).get 4 rfl)⟩
                  | 4, _, _ => exact .inl ⟨rfl, op_call4 rfl rfl Try.call23 (by rw [show aa.eval (.tmp 137) = .int .i64 Wd from (hd 0 rfl), show aa.eval (.tmp 138) = .int .i64 Ht from (hd 1 rfl), show aa.eval (.tmp 139) = .agg #[.int .i64 ((invM Wd Ht a).x), .int .i64 ((invM Wd Ht a).y), .int .i64 ((invM Wd Ht a).t), .bool ((invM Wd Ht a).f)] from (hd 2 rfl), show aa.eval (.tmp 140) = .agg #[.int .i64 a.x, .int .i64 a.y, .int .i64 a.t, .bool a.f] from (hd 3 rfl)]; exact After_e (inv_al HA.out) HA.out (inv_one HA.out) _)⟩
                  | 5, _, _ => exact .inl ⟨rfl, op_mv rfl (hd 4 rfl)⟩
                  | 6, _, _ => exact .inl ⟨rfl, op_fst rfl (hd 5 rfl)⟩
                  | 7, _, _ => exact .inl ⟨rfl, op_snd rfl (hd 5 rfl)⟩
                  | 8, _, h => cases h
                  | qi + 9, h, _ => omega
                · intro vs X16 hb hv hal hne
                  have HL0 := Hd.mk (HE.out.lt)
                  have HBW := HB
                  replace HB := Hd.mk (bel_then HB.out hb)
                  replace HE : Hd (Env X16 [⟨w.heap.size, 24, [.int .i64 Wd, .int .i64 Ht, .slice A xs.length k]⟩, ⟨w.heap.size + 1, 26, [.int .i64 a.x, .int .i64 a.y, .int .i64 a.t, .bool a.f]⟩, ⟨w.heap.size + 1 + 1, 26, [.int .i64 b.x, .int .i64 b.y, .int .i64 b.t, .bool b.f]⟩, ⟨w.heap.size + 1 + 1 + 1, 26, [.int .i64 c.x, .int .i64 c.y, .int .i64 c.t, .bool c.f]⟩, ⟨g13, 31, [.int .i64 a.x, .int .i64 a.y, .int .i64 a.t, .bool a.f]⟩, ⟨g14, 31, [.int .i64 b.x, .int .i64 b.y, .int .i64 b.t, .bool b.f]⟩, ⟨g15, 31, [.int .i64 c.x, .int .i64 c.y, .int .i64 c.t, .bool c.f]⟩, ⟨g16, 31, [.int .i64 ((aftM Wd Ht a b).x), .int .i64 ((aftM Wd Ht a b).y), .int .i64 ((aftM Wd Ht a b).t), .bool ((aftM Wd Ht a b).f)]⟩, ⟨g18, 31, [.int .i64 ((aftM Wd Ht (aftM Wd Ht a b) c).x), .int .i64 ((aftM Wd Ht (aftM Wd Ht a b) c).y), .int .i64 ((aftM Wd Ht (aftM Wd Ht a b) c).t), .bool ((aftM Wd Ht (aftM Wd Ht a b) c).f)]⟩, ⟨g20, 31, [.int .i64 ((aftM Wd Ht b c).x), .int .i64 ((aftM Wd Ht b c).y), .int .i64 ((aftM Wd Ht b c).t), .bool ((aftM Wd Ht b c).f)]⟩, ⟨g22, 31, [.int .i64 ((aftM Wd Ht (aftM Wd Ht a b) c).x), .int .i64 ((aftM Wd Ht (aftM Wd Ht a b) c).y), .int .i64 ((aftM Wd Ht (aftM Wd Ht a b) c).t), .bool ((aftM Wd Ht (aftM Wd Ht a b) c).f)]⟩, ⟨g24, 31, [.int .i64 ((invM Wd Ht a).x), .int .i64 ((invM Wd Ht a).y), .int .i64 ((invM Wd Ht a).t), .bool ((invM Wd Ht a).f)]⟩]) := ⟨HE.out.to hb⟩
                  have HLS := HL0
                  have e142 : vs 142 = .agg #[.int .i64 0, .int .i64 0, .int .i64 0, .bool false] := hv 6 (by decide) rfl
                  have e143 : vs 143 = .int .i64 0 := hv 7 (by decide) rfl
                  obtain ⟨g26, e26, l26, b26⟩ : ∃ g, vs 26 = .pointer (some ⟨g, 0, none⟩) ∧ _ := hal 8 rfl
                  replace HE : Hd (Env X16 [⟨w.heap.size, 24, [.int .i64 Wd, .int .i64 Ht, .slice A xs.length k]⟩, ⟨w.heap.size + 1, 26, [.int .i64 a.x, .int .i64 a.y, .int .i64 a.t, .bool a.f]⟩, ⟨w.heap.size + 1 + 1, 26, [.int .i64 b.x, .int .i64 b.y, .int .i64 b.t, .bool b.f]⟩, ⟨w.heap.size + 1 + 1 + 1, 26, [.int .i64 c.x, .int .i64 c.y, .int .i64 c.t, .bool c.f]⟩, ⟨g13, 31, [.int .i64 a.x, .int .i64 a.y, .int .i64 a.t, .bool a.f]⟩, ⟨g14, 31, [.int .i64 b.x, .int .i64 b.y, .int .i64 b.t, .bool b.f]⟩, ⟨g15, 31, [.int .i64 c.x, .int .i64 c.y, .int .i64 c.t, .bool c.f]⟩, ⟨g16, 31, [.int .i64 ((aftM Wd Ht a b).x), .int .i64 ((aftM Wd Ht a b).y), .int .i64 ((aftM Wd Ht a b).t), .bool ((aftM Wd Ht a b).f)]⟩, ⟨g18, 31, [.int .i64 ((aftM Wd Ht (aftM Wd Ht a b) c).x), .int .i64 ((aftM Wd Ht (aftM Wd Ht a b) c).y), .int .i64 ((aftM Wd Ht (aftM Wd Ht a b) c).t), .bool ((aftM Wd Ht (aftM Wd Ht a b) c).f)]⟩, ⟨g20, 31, [.int .i64 ((aftM Wd Ht b c).x), .int .i64 ((aftM Wd Ht b c).y), .int .i64 ((aftM Wd Ht b c).t), .bool ((aftM Wd Ht b c).f)]⟩, ⟨g22, 31, [.int .i64 ((aftM Wd Ht (aftM Wd Ht a b) c).x), .int .i64 ((aftM Wd Ht (aftM Wd Ht a b) c).y), .int .i64 ((aftM Wd Ht (aftM Wd Ht a b) c).t), .bool ((aftM Wd Ht (aftM Wd Ht a b) c).f)]⟩, ⟨g24, 31, [.int .i64 ((invM Wd Ht a).x), .int .i64 ((invM Wd Ht a).y), .int .i64 ((invM Wd Ht a).t), .bool ((invM Wd Ht a).f)]⟩, ⟨g26, 31, [.int .i64 0, .int .i64 0, .int .i64 0, .bool false]⟩]) := ⟨Env.addne (e := ⟨g26, 31, [.int .i64 0, .int .i64 0, .int .i64 0, .bool false]⟩) HE.out b26 (fun e' he => Nat.ne_of_lt (Nat.lt_of_lt_of_le (HL0.out e' he) l26))⟩
                  have G26 : Hd (w.heap.size ≤ g26) := ⟨Nat.le_trans HBW.out.size l26⟩
                  simp only [putAll, List.foldl_cons, List.foldl_nil, Act.put, List.setIfInBounds_toArray, List.set_cons_succ, List.set_cons_zero, List.drop_succ_cons, List.drop_zero, e142, e143, e26]
                  generalize vs 137 = s137
                  generalize vs 138 = s138
                  generalize vs 139 = s139
                  generalize vs 140 = s140
                  generalize vs 141 = s141
                  generalize vs 136 = s136
                  clear hv hal hne hb HL0 HBW HLS e142 e143 e26 l26 b26
                  refine wpList_st rfl rfl rfl rfl rfl (sto_M (HE.out.get 12 rfl)) ?_
                  have HE' : Env (putL X16 g26 0 [.int .i64 0, .int .i64 0, .int .i64 0, .bool false]) [⟨w.heap.size, 24, [.int .i64 Wd, .int .i64 Ht, .slice A xs.length k]⟩, ⟨w.heap.size + 1, 26, [.int .i64 a.x, .int .i64 a.y, .int .i64 a.t, .bool a.f]⟩, ⟨w.heap.size + 1 + 1, 26, [.int .i64 b.x, .int .i64 b.y, .int .i64 b.t, .bool b.f]⟩, ⟨w.heap.size + 1 + 1 + 1, 26, [.int .i64 c.x, .int .i64 c.y, .int .i64 c.t, .bool c.f]⟩, ⟨g13, 31, [.int .i64 a.x, .int .i64 a.y, .int .i64 a.t, .bool a.f]⟩, ⟨g14, 31, [.int .i64 b.x, .int .i64 b.y, .int .i64 b.t, .bool b.f]⟩, ⟨g15, 31, [.int .i64 c.x, .int .i64 c.y, .int .i64 c.t, .bool c.f]⟩, ⟨g16, 31, [.int .i64 ((aftM Wd Ht a b).x), .int .i64 ((aftM Wd Ht a b).y), .int .i64 ((aftM Wd Ht a b).t), .bool ((aftM Wd Ht a b).f)]⟩, ⟨g18, 31, [.int .i64 ((aftM Wd Ht (aftM Wd Ht a b) c).x), .int .i64 ((aftM Wd Ht (aftM Wd Ht a b) c).y), .int .i64 ((aftM Wd Ht (aftM Wd Ht a b) c).t), .bool ((aftM Wd Ht (aftM Wd Ht a b) c).f)]⟩, ⟨g20, 31, [.int .i64 ((aftM Wd Ht b c).x), .int .i64 ((aftM Wd Ht b c).y), .int .i64 ((aftM Wd Ht b c).t), .bool ((aftM Wd Ht b c).f)]⟩, ⟨g22, 31, [.int .i64 ((aftM Wd Ht (aftM Wd Ht a b) c).x), .int .i64 ((aftM Wd Ht (aftM Wd Ht a b) c).y), .int .i64 ((aftM Wd Ht (aftM Wd Ht a b) c).t), .bool ((aftM Wd Ht (aftM Wd Ht a b) c).f)]⟩, ⟨g24, 31, [.int .i64 ((invM Wd Ht a).x), .int .i64 ((invM Wd Ht a).y), .int .i64 ((invM Wd Ht a).t), .bool ((invM Wd Ht a).f)]⟩, ⟨g26, 31, [.int .i64 0, .int .i64 0, .int .i64 0, .bool false]⟩] := HE.out.putF 12 rfl rfl
                  have HB' := putL_below (show w.heap.size ≤ g26 from G26.out) [.int .i64 0, .int .i64 0, .int .i64 0, .bool false] _ 0 HB.out
                  generalize putL X16 g26 0 [.int .i64 0, .int .i64 0, .int .i64 0, .bool false] = X17 at *
                  replace HE := Hd.mk HE'
                  replace HB := Hd.mk HB'
                  clear HE' HB'
                  go_upto_region 11 with fail
                  refine wp_region_vd 9 [145, 146, 147, 148, 149, 144, 150, 151, 28] [0, 1, 5, 6, 7] [8] 31 [.int .i64 0, .int .i64 0, .int .i64 0, .bool false] [isV (.int .i64 Wd), isV (.int .i64 Ht), isV (.agg #[.int .i64 a.x, .int .i64 a.y, .int .i64 a.t, .bool a.f]), isV (.agg #[.int .i64 ((invM Wd Ht a).x), .int .i64 ((invM Wd Ht a).y), .int .i64 ((invM Wd Ht a).t), .bool ((invM Wd Ht a).f)]), isP (isV (.agg #[.int .i64 0, .int .i64 0, .int .i64 0, .bool false])) (isV (.int .i64 0)), isP (isV (.agg #[.int .i64 0, .int .i64 0, .int .i64 0, .bool false])) (isV (.int .i64 0)), isV (.agg #[.int .i64 0, .int .i64 0, .int .i64 0, .bool false]), isV (.int .i64 0), SP.any] (by rfl) alloc_M ?_ ?_
                  · intro qi qh qA aa wx hb hs hd
                    match qi, qh, qA with
                    | 0, _, _ => exact .inl ⟨rfl, op_mv rfl (hs 11 rfl)⟩
                    | 1, _, _ => exact .inl ⟨rfl, op_mv rfl (hs 12 rfl)⟩
                    | 2, _, _ => exact .inl ⟨rfl, op_ldM rfl rfl (hs 13 rfl) ((HE.out.to hb).get 4 rfl)⟩
                    | 3, _, _ => exact .inl ⟨rfl, op_ldM rfl rfl (hs 24 rfl) ((HE.out.to hb).get 11 rfl)⟩
                    | 4, _, _ => exact .inl ⟨rfl, op_call4 rfl rfl Try.call23 (by rw [show aa.eval (.tmp 145) = .int .i64 Wd from (hd 0 rfl), show aa.eval (.tmp 146) = .int .i64 Ht from (hd 1 rfl), show aa.eval (.tmp 147) = .agg #[.int .i64 a.x, .int .i64 a.y, .int .i64 a.t, .bool a.f] from (hd 2 rfl), show aa.eval (.tmp 148) = .agg #[.int .i64 ((invM Wd Ht a).x), .int .i64 ((invM Wd Ht a).y), .int .i64 ((invM Wd Ht a).t), .bool ((invM Wd Ht a).f)] from (hd 3 rfl)]; exact After_e HA.out (inv_al HA.out) (inv_two HA.out) _)⟩
                    | 5, _, _ => exact .inl ⟨rfl, op_mv rfl (hd 4 rfl)⟩
                    | 6, _, _ => exact .inl ⟨rfl, op_fst rfl (hd 5 rfl)⟩
                    | 7, _, _ => exact .inl ⟨rfl, op_snd rfl (hd 5 rfl)⟩
                    | 8, _, h => cases h
                    | qi + 9, h, _ => omega
                  · intro vs X18 hb hv hal hne
                    have HL0 := Hd.mk (HE.out.lt)
                    have HBW := HB
                    replace HB := Hd.mk (bel_then HB.out hb)
                    replace HE : Hd (Env X18 [⟨w.heap.size, 24, [.int .i64 Wd, .int .i64 Ht, .slice A xs.length k]⟩, ⟨w.heap.size + 1, 26, [.int .i64 a.x, .int .i64 a.y, .int .i64 a.t, .bool a.f]⟩, ⟨w.heap.size + 1 + 1, 26, [.int .i64 b.x, .int .i64 b.y, .int .i64 b.t, .bool b.f]⟩, ⟨w.heap.size + 1 + 1 + 1, 26, [.int .i64 c.x, .int .i64 c.y, .int .i64 c.t, .bool c.f]⟩, ⟨g13, 31, [.int .i64 a.x, .int .i64 a.y, .int .i64 a.t, .bool a.f]⟩, ⟨g14, 31, [.int .i64 b.x, .int .i64 b.y, .int .i64 b.t, .bool b.f]⟩, ⟨g15, 31, [.int .i64 c.x, .int .i64 c.y, .int .i64 c.t, .bool c.f]⟩, ⟨g16, 31, [.int .i64 ((aftM Wd Ht a b).x), .int .i64 ((aftM Wd Ht a b).y), .int .i64 ((aftM Wd Ht a b).t), .bool ((aftM Wd Ht a b).f)]⟩, ⟨g18, 31, [.int .i64 ((aftM Wd Ht (aftM Wd Ht a b) c).x), .int .i64 ((aftM Wd Ht (aftM Wd Ht a b) c).y), .int .i64 ((aftM Wd Ht (aftM Wd Ht a b) c).t), .bool ((aftM Wd Ht (aftM Wd Ht a b) c).f)]⟩, ⟨g20, 31, [.int .i64 ((aftM Wd Ht b c).x), .int .i64 ((aftM Wd Ht b c).y), .int .i64 ((aftM Wd Ht b c).t), .bool ((aftM Wd Ht b c).f)]⟩, ⟨g22, 31, [.int .i64 ((aftM Wd Ht (aftM Wd Ht a b) c).x), .int .i64 ((aftM Wd Ht (aftM Wd Ht a b) c).y), .int .i64 ((aftM Wd Ht (aftM Wd Ht a b) c).t), .bool ((aftM Wd Ht (aftM Wd Ht a b) c).f)]⟩, ⟨g24, 31, [.int .i64 ((invM Wd Ht a).x), .int .i64 ((invM Wd Ht a).y), .int .i64 ((invM Wd Ht a).t), .bool ((invM Wd Ht a).f)]⟩, ⟨g26, 31, [.int .i64 0, .int .i64 0, .int .i64 0, .bool false]⟩]) := ⟨HE.out.to hb⟩
                    have HLS := HL0
                    have e150 : vs 150 = .agg #[.int .i64 0, .int .i64 0, .int .i64 0, .bool false] := hv 6 (by decide) rfl
                    have e151 : vs 151 = .int .i64 0 := hv 7 (by decide) rfl
                    obtain ⟨g28, e28, l28, b28⟩ : ∃ g, vs 28 = .pointer (some ⟨g, 0, none⟩) ∧ _ := hal 8 rfl
                    replace HE : Hd (Env X18 [⟨w.heap.size, 24, [.int .i64 Wd, .int .i64 Ht, .slice A xs.length k]⟩, ⟨w.heap.size + 1, 26, [.int .i64 a.x, .int .i64 a.y, .int .i64 a.t, .bool a.f]⟩, ⟨w.heap.size + 1 + 1, 26, [.int .i64 b.x, .int .i64 b.y, .int .i64 b.t, .bool b.f]⟩, ⟨w.heap.size + 1 + 1 + 1, 26, [.int .i64 c.x, .int .i64 c.y, .int .i64 c.t, .bool c.f]⟩, ⟨g13, 31, [.int .i64 a.x, .int .i64 a.y, .int .i64 a.t, .bool a.f]⟩, ⟨g14, 31, [.int .i64 b.x, .int .i64 b.y, .int .i64 b.t, .bool b.f]⟩, ⟨g15, 31, [.int .i64 c.x, .int .i64 c.y, .int .i64 c.t, .bool c.f]⟩, ⟨g16, 31, [.int .i64 ((aftM Wd Ht a b).x), .int .i64 ((aftM Wd Ht a b).y), .int .i64 ((aftM Wd Ht a b).t), .bool ((aftM Wd Ht a b).f)]⟩, ⟨g18, 31, [.int .i64 ((aftM Wd Ht (aftM Wd Ht a b) c).x), .int .i64 ((aftM Wd Ht (aftM Wd Ht a b) c).y), .int .i64 ((aftM Wd Ht (aftM Wd Ht a b) c).t), .bool ((aftM Wd Ht (aftM Wd Ht a b) c).f)]⟩, ⟨g20, 31, [.int .i64 ((aftM Wd Ht b c).x), .int .i64 ((aftM Wd Ht b c).y), .int .i64 ((aftM Wd Ht b c).t), .bool ((aftM Wd Ht b c).f)]⟩, ⟨g22, 31, [.int .i64 ((aftM Wd Ht (aftM Wd Ht a b) c).x), .int .i64 ((aftM Wd Ht (aftM Wd Ht a b) c).y), .int .i64 ((aftM Wd Ht (aftM Wd Ht a b) c).t), .bool ((aftM Wd Ht (aftM Wd Ht a b) c).f)]⟩, ⟨g24, 31, [.int .i64 ((invM Wd Ht a).x), .int .i64 ((invM Wd Ht a).y), .int .i64 ((invM Wd Ht a).t), .bool ((invM Wd Ht a).f)]⟩, ⟨g26, 31, [.int .i64 0, .int .i64 0, .int .i64 0, .bool false]⟩, ⟨g28, 31, [.int .i64 0, .int .i64 0, .int .i64 0, .bool false]⟩]) := ⟨Env.addne (e := ⟨g28, 31, [.int .i64 0, .int .i64 0, .int .i64 0, .bool false]⟩) HE.out b28 (fun e' he => Nat.ne_of_lt (Nat.lt_of_lt_of_le (HL0.out e' he) l28))⟩
                    have G28 : Hd (w.heap.size ≤ g28) := ⟨Nat.le_trans HBW.out.size l28⟩
                    simp only [putAll, List.foldl_cons, List.foldl_nil, Act.put, List.setIfInBounds_toArray, List.set_cons_succ, List.set_cons_zero, List.drop_succ_cons, List.drop_zero, e150, e151, e28]
                    generalize vs 145 = s145
                    generalize vs 146 = s146
                    generalize vs 147 = s147
                    generalize vs 148 = s148
                    generalize vs 149 = s149
                    generalize vs 144 = s144
                    clear hv hal hne hb HL0 HBW HLS e150 e151 e28 l28 b28
                    refine wpList_st rfl rfl rfl rfl rfl (sto_M (HE.out.get 13 rfl)) ?_
                    have HE' : Env (putL X18 g28 0 [.int .i64 0, .int .i64 0, .int .i64 0, .bool false]) [⟨w.heap.size, 24, [.int .i64 Wd, .int .i64 Ht, .slice A xs.length k]⟩, ⟨w.heap.size + 1, 26, [.int .i64 a.x, .int .i64 a.y, .int .i64 a.t, .bool a.f]⟩, ⟨w.heap.size + 1 + 1, 26, [.int .i64 b.x, .int .i64 b.y, .int .i64 b.t, .bool b.f]⟩, ⟨w.heap.size + 1 + 1 + 1, 26, [.int .i64 c.x, .int .i64 c.y, .int .i64 c.t, .bool c.f]⟩, ⟨g13, 31, [.int .i64 a.x, .int .i64 a.y, .int .i64 a.t, .bool a.f]⟩, ⟨g14, 31, [.int .i64 b.x, .int .i64 b.y, .int .i64 b.t, .bool b.f]⟩, ⟨g15, 31, [.int .i64 c.x, .int .i64 c.y, .int .i64 c.t, .bool c.f]⟩, ⟨g16, 31, [.int .i64 ((aftM Wd Ht a b).x), .int .i64 ((aftM Wd Ht a b).y), .int .i64 ((aftM Wd Ht a b).t), .bool ((aftM Wd Ht a b).f)]⟩, ⟨g18, 31, [.int .i64 ((aftM Wd Ht (aftM Wd Ht a b) c).x), .int .i64 ((aftM Wd Ht (aftM Wd Ht a b) c).y), .int .i64 ((aftM Wd Ht (aftM Wd Ht a b) c).t), .bool ((aftM Wd Ht (aftM Wd Ht a b) c).f)]⟩, ⟨g20, 31, [.int .i64 ((aftM Wd Ht b c).x), .int .i64 ((aftM Wd Ht b c).y), .int .i64 ((aftM Wd Ht b c).t), .bool ((aftM Wd Ht b c).f)]⟩, ⟨g22, 31, [.int .i64 ((aftM Wd Ht (aftM Wd Ht a b) c).x), .int .i64 ((aftM Wd Ht (aftM Wd Ht a b) c).y), .int .i64 ((aftM Wd Ht (aftM Wd Ht a b) c).t), .bool ((aftM Wd Ht (aftM Wd Ht a b) c).f)]⟩, ⟨g24, 31, [.int .i64 ((invM Wd Ht a).x), .int .i64 ((invM Wd Ht a).y), .int .i64 ((invM Wd Ht a).t), .bool ((invM Wd Ht a).f)]⟩, ⟨g26, 31, [.int .i64 0, .int .i64 0, .int .i64 0, .bool false]⟩, ⟨g28, 31, [.int .i64 0, .int .i64 0, .int .i64 0, .bool false]⟩] := HE.out.putF 13 rfl rfl
                    have HB' := putL_below (show w.heap.size ≤ g28 from G28.out) [.int .i64 0, .int .i64 0, .int .i64 0, .bool false] _ 0 HB.out
                    generalize putL X18 g28 0 [.int .i64 0, .int .i64 0, .int .i64 0, .bool false] = X19 at *
                    replace HE := Hd.mk HE'
                    replace HB := Hd.mk HB'
                    clear HE' HB'
                    go_upto_region 12 with fail
                    refine wp_region_vd 41 [152, 153, 154, 155, 156, 157, 158, 159, 160, 161, 162, 163, 164, 165, 166, 167, 168, 169, 170, 171, 172, 173, 174, 175, 176, 177, 178, 179, 180, 181, 182, 183, 184, 185, 186, 187, 188, 189, 190, 191, 192] [0, 1, 2, 3, 4, 5, 6, 7, 8, 9, 10, 11, 12, 13, 14, 15, 16, 17, 18, 19, 20, 21, 22, 23, 24, 25, 26, 29, 30, 31, 33, 34, 35, 36, 38, 39, 40] [] 84 [.int .i64 0, .int .i64 0] [isV (.int .i64 0), isV (.bool false), isV (.bool false), isV (.int .i64 0), isV (.bool false), isV (.bool false), isV (.bool false), isV (.int .i64 0), isV (.bool false), isV (.bool false), isV (.bool false), isV (.int .i64 0), isV (.bool false), isV (.bool false), isV (.bool false), isV (.int .i64 0), isV (.bool false), isV (.bool false), isV (.bool false), isV (.int .i64 0), isV (.bool false), isV (.bool false), isV (.bool false), isV (.int .i64 0), isV (.bool false), isV (.bool false), isV (.bool false), isV (.agg #[.int .i64 ((aftM Wd Ht (aftM Wd Ht a b) c).x), .int .i64 ((aftM Wd Ht (aftM Wd Ht a b) c).y), .int .i64 ((aftM Wd Ht (aftM Wd Ht a b) c).t), .bool ((aftM Wd Ht (aftM Wd Ht a b) c).f)]), isV (.agg #[.int .i64 ((aftM Wd Ht (aftM Wd Ht a b) c).x), .int .i64 ((aftM Wd Ht (aftM Wd Ht a b) c).y), .int .i64 ((aftM Wd Ht (aftM Wd Ht a b) c).t), .bool ((aftM Wd Ht (aftM Wd Ht a b) c).f)]), isV (.bool false), isV (.bool false), isV (.bool false), isV (.agg #[.int .i64 0, .int .i64 0, .int .i64 0, .bool false]), isV (.agg #[.int .i64 0, .int .i64 0, .int .i64 0, .bool false]), isV (.bool false), isV (.bool false), isV (.bool false), isV (.agg #[.int .i64 0, .int .i64 0, .int .i64 0, .bool false]), isV (.agg #[.int .i64 0, .int .i64 0, .int .i64 0, .bool false]), isV (.bool false), isV (.bool false)] (by rfl) alloc_Z ?_ ?_
                    · intro qi qh qA aa wx hb hs hd
                      match qi, qh, qA with
                      | 0, _, _ => exact .inl ⟨rfl, op_mv rfl (hs 17 rfl)⟩
                      | 1, _, _ => exact .inl ⟨rfl, pure_b (bool_eq (by decide)) (⟨_, op_neqE rfl (hd 0 rfl) rfl, rfl⟩)⟩
                      | 2, _, _ => exact .inl ⟨rfl, op_mv rfl (hd 1 rfl)⟩
                      | 3, _, _ => exact .inl ⟨⟨rfl, .inl (hd 2 rfl)⟩, op_mv rfl (hs 19 rfl)⟩
                      | 4, _, _ => exact .inl ⟨⟨rfl, .inl (hd 2 rfl)⟩, pure_b (bool_eq (by decide)) (⟨_, op_neqE rfl (hd 3 rfl) rfl, rfl⟩)⟩
                      | 5, _, _ => exact .inl ⟨rfl, ⟨_, op_pickF rfl (hd 2 rfl) (hd 4 rfl), rfl⟩⟩
                      | 6, _, _ => exact .inl ⟨rfl, op_mv rfl (hd 5 rfl)⟩
                      | 7, _, _ => exact .inl ⟨⟨rfl, .inl (hd 6 rfl)⟩, op_mv rfl (hs 21 rfl)⟩
                      | 8, _, _ => exact .inl ⟨⟨rfl, .inl (hd 6 rfl)⟩, pure_b (bool_eq (by decide)) (⟨_, op_neqE rfl (hd 7 rfl) rfl, rfl⟩)⟩
                      | 9, _, _ => exact .inl ⟨rfl, ⟨_, op_pickF rfl (hd 6 rfl) (hd 8 rfl), rfl⟩⟩
                      | 10, _, _ => exact .inl ⟨rfl, op_mv rfl (hd 9 rfl)⟩
                      | 11, _, _ => exact .inl ⟨⟨rfl, .inl (hd 10 rfl)⟩, op_mv rfl (hs 23 rfl)⟩
                      | 12, _, _ => exact .inl ⟨⟨rfl, .inl (hd 10 rfl)⟩, pure_b (bool_eq (by decide)) (⟨_, op_neqE rfl (hd 11 rfl) rfl, rfl⟩)⟩
                      | 13, _, _ => exact .inl ⟨rfl, ⟨_, op_pickF rfl (hd 10 rfl) (hd 12 rfl), rfl⟩⟩
                      | 14, _, _ => exact .inl ⟨rfl, op_mv rfl (hd 13 rfl)⟩
                      | 15, _, _ => exact .inl ⟨⟨rfl, .inl (hd 14 rfl)⟩, op_mv rfl (hs 25 rfl)⟩
                      | 16, _, _ => exact .inl ⟨⟨rfl, .inl (hd 14 rfl)⟩, pure_b (bool_eq (by decide)) (⟨_, op_neqE rfl (hd 15 rfl) rfl, rfl⟩)⟩
                      | 17, _, _ => exact .inl ⟨rfl, ⟨_, op_pickF rfl (hd 14 rfl) (hd 16 rfl), rfl⟩⟩
                      | 18, _, _ => exact .inl ⟨rfl, op_mv rfl (hd 17 rfl)⟩
                      | 19, _, _ => exact .inl ⟨⟨rfl, .inl (hd 18 rfl)⟩, op_mv rfl (hs 27 rfl)⟩
                      | 20, _, _ => exact .inl ⟨⟨rfl, .inl (hd 18 rfl)⟩, pure_b (bool_eq (by decide)) (⟨_, op_neqE rfl (hd 19 rfl) rfl, rfl⟩)⟩
                      | 21, _, _ => exact .inl ⟨rfl, ⟨_, op_pickF rfl (hd 18 rfl) (hd 20 rfl), rfl⟩⟩
                      | 22, _, _ => exact .inl ⟨rfl, op_mv rfl (hd 21 rfl)⟩
                      | 23, _, _ => exact .inl ⟨⟨rfl, .inl (hd 22 rfl)⟩, op_mv rfl (hs 29 rfl)⟩
                      | 24, _, _ => exact .inl ⟨⟨rfl, .inl (hd 22 rfl)⟩, pure_b (bool_eq (by decide)) (⟨_, op_neqE rfl (hd 23 rfl) rfl, rfl⟩)⟩
                      | 25, _, _ => exact .inl ⟨rfl, ⟨_, op_pickF rfl (hd 22 rfl) (hd 24 rfl), rfl⟩⟩
                      | 26, _, _ => exact .inl ⟨rfl, op_mv rfl (hd 25 rfl)⟩
                      | 27, _, _ => exact .inl ⟨⟨rfl, .inl (hd 26 rfl)⟩, op_ldM rfl rfl (hs 18 rfl) ((HE.out.to hb).get 8 rfl)⟩
                      | 28, _, _ => exact .inl ⟨⟨rfl, .inl (hd 26 rfl)⟩, op_ldM rfl rfl (hs 22 rfl) ((HE.out.to hb).get 10 rfl)⟩
                      | 29, _, _ => exact .inl ⟨⟨rfl, .inl (hd 26 rfl)⟩, ⟨_, op_neqM rfl (hd 27 rfl) (hd 28 rfl), rfl⟩⟩
                      | 30, _, _ => exact .inl ⟨rfl, ⟨_, op_pickF rfl (hd 26 rfl) (hd 29 rfl), rfl⟩⟩
                      | 31, _, _ => exact .inl ⟨rfl, op_mv rfl (hd 30 rfl)⟩
                      | 32, _, _ => exact .inl ⟨⟨rfl, .inl (hd 31 rfl)⟩, op_ldM rfl rfl (hs 26 rfl) ((HE.out.to hb).get 12 rfl)⟩
                      | 33, _, _ => exact .inl ⟨⟨rfl, .inl (hd 31 rfl)⟩, ⟨_, op_b0M rfl, rfl⟩⟩
                      | 34, _, _ => exact .inl ⟨⟨rfl, .inl (hd 31 rfl)⟩, ⟨_, op_neqM rfl (hd 32 rfl) (hd 33 rfl), rfl⟩⟩
                      | 35, _, _ => exact .inl ⟨rfl, ⟨_, op_pickF rfl (hd 31 rfl) (hd 34 rfl), rfl⟩⟩
                      | 36, _, _ => exact .inl ⟨rfl, op_mv rfl (hd 35 rfl)⟩
                      | 37, _, _ => exact .inl ⟨⟨rfl, .inl (hd 36 rfl)⟩, op_ldM rfl rfl (hs 28 rfl) ((HE.out.to hb).get 13 rfl)⟩
                      | 38, _, _ => exact .inl ⟨⟨rfl, .inl (hd 36 rfl)⟩, ⟨_, op_b0M rfl, rfl⟩⟩
                      | 39, _, _ => exact .inl ⟨⟨rfl, .inl (hd 36 rfl)⟩, ⟨_, op_neqM rfl (hd 37 rfl) (hd 38 rfl), rfl⟩⟩
                      | 40, _, _ => exact .inl ⟨rfl, ⟨_, op_pickF rfl (hd 36 rfl) (hd 39 rfl), rfl⟩⟩
                      | qi + 41, h, _ => omega
                    · intro vs X20 hb hv hal hne
                      have HL0 := Hd.mk (HE.out.lt)
                      have HBW := HB
                      replace HB := Hd.mk (bel_then HB.out hb)
                      replace HE : Hd (Env X20 [⟨w.heap.size, 24, [.int .i64 Wd, .int .i64 Ht, .slice A xs.length k]⟩, ⟨w.heap.size + 1, 26, [.int .i64 a.x, .int .i64 a.y, .int .i64 a.t, .bool a.f]⟩, ⟨w.heap.size + 1 + 1, 26, [.int .i64 b.x, .int .i64 b.y, .int .i64 b.t, .bool b.f]⟩, ⟨w.heap.size + 1 + 1 + 1, 26, [.int .i64 c.x, .int .i64 c.y, .int .i64 c.t, .bool c.f]⟩, ⟨g13, 31, [.int .i64 a.x, .int .i64 a.y, .int .i64 a.t, .bool a.f]⟩, ⟨g14, 31, [.int .i64 b.x, .int .i64 b.y, .int .i64 b.t, .bool b.f]⟩, ⟨g15, 31, [.int .i64 c.x, .int .i64 c.y, .int .i64 c.t, .bool c.f]⟩, ⟨g16, 31, [.int .i64 ((aftM Wd Ht a b).x), .int .i64 ((aftM Wd Ht a b).y), .int .i64 ((aftM Wd Ht a b).t), .bool ((aftM Wd Ht a b).f)]⟩, ⟨g18, 31, [.int .i64 ((aftM Wd Ht (aftM Wd Ht a b) c).x), .int .i64 ((aftM Wd Ht (aftM Wd Ht a b) c).y), .int .i64 ((aftM Wd Ht (aftM Wd Ht a b) c).t), .bool ((aftM Wd Ht (aftM Wd Ht a b) c).f)]⟩, ⟨g20, 31, [.int .i64 ((aftM Wd Ht b c).x), .int .i64 ((aftM Wd Ht b c).y), .int .i64 ((aftM Wd Ht b c).t), .bool ((aftM Wd Ht b c).f)]⟩, ⟨g22, 31, [.int .i64 ((aftM Wd Ht (aftM Wd Ht a b) c).x), .int .i64 ((aftM Wd Ht (aftM Wd Ht a b) c).y), .int .i64 ((aftM Wd Ht (aftM Wd Ht a b) c).t), .bool ((aftM Wd Ht (aftM Wd Ht a b) c).f)]⟩, ⟨g24, 31, [.int .i64 ((invM Wd Ht a).x), .int .i64 ((invM Wd Ht a).y), .int .i64 ((invM Wd Ht a).t), .bool ((invM Wd Ht a).f)]⟩, ⟨g26, 31, [.int .i64 0, .int .i64 0, .int .i64 0, .bool false]⟩, ⟨g28, 31, [.int .i64 0, .int .i64 0, .int .i64 0, .bool false]⟩]) := ⟨HE.out.to hb⟩
                      have HLS := HL0
                      have e192 : vs 192 = .bool false := hv 40 (by decide) rfl
                      simp only [putAll, List.foldl_cons, List.foldl_nil, Act.put, List.setIfInBounds_toArray, List.set_cons_succ, List.set_cons_zero, List.drop_succ_cons, List.drop_zero, e192]
                      generalize vs 152 = s152
                      generalize vs 153 = s153
                      generalize vs 154 = s154
                      generalize vs 155 = s155
                      generalize vs 156 = s156
                      generalize vs 157 = s157
                      generalize vs 158 = s158
                      generalize vs 159 = s159
                      generalize vs 160 = s160
                      generalize vs 161 = s161
                      generalize vs 162 = s162
                      generalize vs 163 = s163
                      generalize vs 164 = s164
                      generalize vs 165 = s165
                      generalize vs 166 = s166
                      generalize vs 167 = s167
                      generalize vs 168 = s168
                      generalize vs 169 = s169
                      generalize vs 170 = s170
                      generalize vs 171 = s171
                      generalize vs 172 = s172
                      generalize vs 173 = s173
                      generalize vs 174 = s174
                      generalize vs 175 = s175
                      generalize vs 176 = s176
                      generalize vs 177 = s177
                      generalize vs 178 = s178
                      generalize vs 179 = s179
                      generalize vs 180 = s180
                      generalize vs 181 = s181
                      generalize vs 182 = s182
                      generalize vs 183 = s183
                      generalize vs 184 = s184
                      generalize vs 185 = s185
                      generalize vs 186 = s186
                      generalize vs 187 = s187
                      generalize vs 188 = s188
                      generalize vs 189 = s189
                      generalize vs 190 = s190
                      generalize vs 191 = s191
                      clear hv hal hne hb HL0 HBW HLS e192
                      go_upto_region 14 with fail
                      refine wp_region_vs 8 [194, 195, 196, 197, 193, 198, 199, 30] [4, 5, 6] [7] 27 [.int .i64 0, .int .i64 0, .slice none 0 0] [isV (.agg #[.int .i64 b.x, .int .i64 b.y, .int .i64 b.t, .bool b.f]), isV (.agg #[.int .i64 Wd, .int .i64 Ht, .slice A xs.length k]), isSt X20.heap.size Wd Ht xs, isP (isFS X20.heap.size Wd Ht (apL Wd Ht b.x b.y b.t b.f xs)) (isV (.int .i64 0)), isP (isFS X20.heap.size Wd Ht (apL Wd Ht b.x b.y b.t b.f xs)) (isV (.int .i64 0)), isFS X20.heap.size Wd Ht (apL Wd Ht b.x b.y b.t b.f xs), isV (.int .i64 0), SP.any] (by kernel_rfl) (by kernel_rfl) (by kernel_rfl) (by rfl) alloc_T (fun d v c a w h => by cases d <;> exact h) ?_ ?_
                      · intro qi qh qA aa wx hb hs hd
                        match qi, qh, qA with
                        | 0, _, _ => exact op_ldM rfl rfl (hs 14 rfl) ((HE.out.to hb).get 5 rfl)
                        | 1, _, _ => exact op_ldU rfl rfl (hs 4 rfl) ((HE.out.to hb).get 0 rfl)
                        | 2, _, _ => exact op_call1 rfl rfl Try.call15 (by rw [(show aa.eval (.tmp 195) = .agg #[.int .i64 Wd, .int .i64 Ht, .slice A xs.length k] from (hd 1 rfl))]; exact got_st hb.size (HSTY.out _ (HRI.out.to (bel_then HB.out hb))))
                        | 3, _, _ => exact op_call2 rfl rfl Try.call13 (by rw [show aa.eval (.tmp 194) = .agg #[.int .i64 b.x, .int .i64 b.y, .int .i64 b.t, .bool b.f] from (hd 0 rfl)]; exact got_fsp hb.size (Apply_rd Wd Ht b.x b.y b.t b.f xs HV.out (HB2.out).al _ _ (rd_st (hd 2 rfl))))
                        | 4, _, _ => exact op_mv rfl (hd 3 rfl)
                        | 5, _, _ => exact op_fst rfl (hd 4 rfl)
                        | 6, _, _ => exact op_snd rfl (hd 4 rfl)
                        | 7, _, h => cases h
                        | qi + 8, h, _ => omega
                      · intro vs X21 hb hv hal hne
                        have HL0 := Hd.mk (HE.out.lt)
                        have HBW := HB
                        replace HB := Hd.mk (bel_then HB.out hb)
                        replace HE : Hd (Env X21 [⟨w.heap.size, 24, [.int .i64 Wd, .int .i64 Ht, .slice A xs.length k]⟩, ⟨w.heap.size + 1, 26, [.int .i64 a.x, .int .i64 a.y, .int .i64 a.t, .bool a.f]⟩, ⟨w.heap.size + 1 + 1, 26, [.int .i64 b.x, .int .i64 b.y, .int .i64 b.t, .bool b.f]⟩, ⟨w.heap.size + 1 + 1 + 1, 26, [.int .i64 c.x, .int .i64 c.y, .int .i64 c.t, .bool c.f]⟩, ⟨g13, 31, [.int .i64 a.x, .int .i64 a.y, .int .i64 a.t, .bool a.f]⟩, ⟨g14, 31, [.int .i64 b.x, .int .i64 b.y, .int .i64 b.t, .bool b.f]⟩, ⟨g15, 31, [.int .i64 c.x, .int .i64 c.y, .int .i64 c.t, .bool c.f]⟩, ⟨g16, 31, [.int .i64 ((aftM Wd Ht a b).x), .int .i64 ((aftM Wd Ht a b).y), .int .i64 ((aftM Wd Ht a b).t), .bool ((aftM Wd Ht a b).f)]⟩, ⟨g18, 31, [.int .i64 ((aftM Wd Ht (aftM Wd Ht a b) c).x), .int .i64 ((aftM Wd Ht (aftM Wd Ht a b) c).y), .int .i64 ((aftM Wd Ht (aftM Wd Ht a b) c).t), .bool ((aftM Wd Ht (aftM Wd Ht a b) c).f)]⟩, ⟨g20, 31, [.int .i64 ((aftM Wd Ht b c).x), .int .i64 ((aftM Wd Ht b c).y), .int .i64 ((aftM Wd Ht b c).t), .bool ((aftM Wd Ht b c).f)]⟩, ⟨g22, 31, [.int .i64 ((aftM Wd Ht (aftM Wd Ht a b) c).x), .int .i64 ((aftM Wd Ht (aftM Wd Ht a b) c).y), .int .i64 ((aftM Wd Ht (aftM Wd Ht a b) c).t), .bool ((aftM Wd Ht (aftM Wd Ht a b) c).f)]⟩, ⟨g24, 31, [.int .i64 ((invM Wd Ht a).x), .int .i64 ((invM Wd Ht a).y), .int .i64 ((invM Wd Ht a).t), .bool ((invM Wd Ht a).f)]⟩, ⟨g26, 31, [.int .i64 0, .int .i64 0, .int .i64 0, .bool false]⟩, ⟨g28, 31, [.int .i64 0, .int .i64 0, .int .i64 0, .bool false]⟩]) := ⟨HE.out.to hb⟩
                        have HLS := HL0
                        have t198 : (isFS X20.heap.size Wd Ht (apL Wd Ht b.x b.y b.t b.f xs)).p (vs 198) X21 := hv 5 (by decide) rfl
                        obtain ⟨g198, k198, rest198, e198, l198, m198, n198, b198⟩ := t198
                        replace HE : Hd (Env X21 [⟨w.heap.size, 24, [.int .i64 Wd, .int .i64 Ht, .slice A xs.length k]⟩, ⟨w.heap.size + 1, 26, [.int .i64 a.x, .int .i64 a.y, .int .i64 a.t, .bool a.f]⟩, ⟨w.heap.size + 1 + 1, 26, [.int .i64 b.x, .int .i64 b.y, .int .i64 b.t, .bool b.f]⟩, ⟨w.heap.size + 1 + 1 + 1, 26, [.int .i64 c.x, .int .i64 c.y, .int .i64 c.t, .bool c.f]⟩, ⟨g13, 31, [.int .i64 a.x, .int .i64 a.y, .int .i64 a.t, .bool a.f]⟩, ⟨g14, 31, [.int .i64 b.x, .int .i64 b.y, .int .i64 b.t, .bool b.f]⟩, ⟨g15, 31, [.int .i64 c.x, .int .i64 c.y, .int .i64 c.t, .bool c.f]⟩, ⟨g16, 31, [.int .i64 ((aftM Wd Ht a b).x), .int .i64 ((aftM Wd Ht a b).y), .int .i64 ((aftM Wd Ht a b).t), .bool ((aftM Wd Ht a b).f)]⟩, ⟨g18, 31, [.int .i64 ((aftM Wd Ht (aftM Wd Ht a b) c).x), .int .i64 ((aftM Wd Ht (aftM Wd Ht a b) c).y), .int .i64 ((aftM Wd Ht (aftM Wd Ht a b) c).t), .bool ((aftM Wd Ht (aftM Wd Ht a b) c).f)]⟩, ⟨g20, 31, [.int .i64 ((aftM Wd Ht b c).x), .int .i64 ((aftM Wd Ht b c).y), .int .i64 ((aftM Wd Ht b c).t), .bool ((aftM Wd Ht b c).f)]⟩, ⟨g22, 31, [.int .i64 ((aftM Wd Ht (aftM Wd Ht a b) c).x), .int .i64 ((aftM Wd Ht (aftM Wd Ht a b) c).y), .int .i64 ((aftM Wd Ht (aftM Wd Ht a b) c).t), .bool ((aftM Wd Ht (aftM Wd Ht a b) c).f)]⟩, ⟨g24, 31, [.int .i64 ((invM Wd Ht a).x), .int .i64 ((invM Wd Ht a).y), .int .i64 ((invM Wd Ht a).t), .bool ((invM Wd Ht a).f)]⟩, ⟨g26, 31, [.int .i64 0, .int .i64 0, .int .i64 0, .bool false]⟩, ⟨g28, 31, [.int .i64 0, .int .i64 0, .int .i64 0, .bool false]⟩, ⟨g198, 3, ints (apL Wd Ht b.x b.y b.t b.f xs) ++ rest198⟩]) := ⟨Env.addne (e := ⟨g198, 3, ints (apL Wd Ht b.x b.y b.t b.f xs) ++ rest198⟩) HE.out b198 (fun e' he => Nat.ne_of_lt (Nat.lt_of_lt_of_le (HL0.out e' he) l198))⟩
                        have G198 : Hd (w.heap.size ≤ g198) := ⟨Nat.le_trans HBW.out.size l198⟩
                        have e199 : vs 199 = .int .i64 0 := hv 6 (by decide) rfl
                        obtain ⟨g30, e30, l30, b30⟩ : ∃ g, vs 30 = .pointer (some ⟨g, 0, none⟩) ∧ _ := hal 7 rfl
                        replace HE : Hd (Env X21 [⟨w.heap.size, 24, [.int .i64 Wd, .int .i64 Ht, .slice A xs.length k]⟩, ⟨w.heap.size + 1, 26, [.int .i64 a.x, .int .i64 a.y, .int .i64 a.t, .bool a.f]⟩, ⟨w.heap.size + 1 + 1, 26, [.int .i64 b.x, .int .i64 b.y, .int .i64 b.t, .bool b.f]⟩, ⟨w.heap.size + 1 + 1 + 1, 26, [.int .i64 c.x, .int .i64 c.y, .int .i64 c.t, .bool c.f]⟩, ⟨g13, 31, [.int .i64 a.x, .int .i64 a.y, .int .i64 a.t, .bool a.f]⟩, ⟨g14, 31, [.int .i64 b.x, .int .i64 b.y, .int .i64 b.t, .bool b.f]⟩, ⟨g15, 31, [.int .i64 c.x, .int .i64 c.y, .int .i64 c.t, .bool c.f]⟩, ⟨g16, 31, [.int .i64 ((aftM Wd Ht a b).x), .int .i64 ((aftM Wd Ht a b).y), .int .i64 ((aftM Wd Ht a b).t), .bool ((aftM Wd Ht a b).f)]⟩, ⟨g18, 31, [.int .i64 ((aftM Wd Ht (aftM Wd Ht a b) c).x), .int .i64 ((aftM Wd Ht (aftM Wd Ht a b) c).y), .int .i64 ((aftM Wd Ht (aftM Wd Ht a b) c).t), .bool ((aftM Wd Ht (aftM Wd Ht a b) c).f)]⟩, ⟨g20, 31, [.int .i64 ((aftM Wd Ht b c).x), .int .i64 ((aftM Wd Ht b c).y), .int .i64 ((aftM Wd Ht b c).t), .bool ((aftM Wd Ht b c).f)]⟩, ⟨g22, 31, [.int .i64 ((aftM Wd Ht (aftM Wd Ht a b) c).x), .int .i64 ((aftM Wd Ht (aftM Wd Ht a b) c).y), .int .i64 ((aftM Wd Ht (aftM Wd Ht a b) c).t), .bool ((aftM Wd Ht (aftM Wd Ht a b) c).f)]⟩, ⟨g24, 31, [.int .i64 ((invM Wd Ht a).x), .int .i64 ((invM Wd Ht a).y), .int .i64 ((invM Wd Ht a).t), .bool ((invM Wd Ht a).f)]⟩, ⟨g26, 31, [.int .i64 0, .int .i64 0, .int .i64 0, .bool false]⟩, ⟨g28, 31, [.int .i64 0, .int .i64 0, .int .i64 0, .bool false]⟩, ⟨g198, 3, ints (apL Wd Ht b.x b.y b.t b.f xs) ++ rest198⟩, ⟨g30, 27, [.int .i64 0, .int .i64 0, .slice none 0 0]⟩]) := ⟨Env.addne (e := ⟨g30, 27, [.int .i64 0, .int .i64 0, .slice none 0 0]⟩) HE.out b30 (fun e' he => (List.mem_append.1 (show e' ∈ _ ++ [_] from he)).elim (fun he => Nat.ne_of_lt (Nat.lt_of_lt_of_le (HL0.out e' he) l30)) (fun he => by rw [List.mem_singleton.1 he]; exact blk_ne b198 b30 (by decide)))⟩
                        have G30 : Hd (w.heap.size ≤ g30) := ⟨Nat.le_trans HBW.out.size l30⟩
                        simp only [putAll, List.foldl_cons, List.foldl_nil, Act.put, List.setIfInBounds_toArray, List.set_cons_succ, List.set_cons_zero, List.drop_succ_cons, List.drop_zero, e198, e199, e30]
                        generalize vs 194 = s194
                        generalize vs 195 = s195
                        generalize vs 196 = s196
                        generalize vs 197 = s197
                        generalize vs 193 = s193
                        clear hv hal hne hb HL0 HBW HLS e198 e199 e30 l198 b198 l30 b30
                        refine wpList_st rfl rfl rfl rfl rfl (sto_T (HE.out.get 15 rfl)) ?_
                        have HE' : Env (putL X21 g30 0 [.int .i64 Wd, .int .i64 Ht, .slice (some ⟨g198, 0, none⟩) ((apL Wd Ht b.x b.y b.t b.f xs).length) k198]) [⟨w.heap.size, 24, [.int .i64 Wd, .int .i64 Ht, .slice A xs.length k]⟩, ⟨w.heap.size + 1, 26, [.int .i64 a.x, .int .i64 a.y, .int .i64 a.t, .bool a.f]⟩, ⟨w.heap.size + 1 + 1, 26, [.int .i64 b.x, .int .i64 b.y, .int .i64 b.t, .bool b.f]⟩, ⟨w.heap.size + 1 + 1 + 1, 26, [.int .i64 c.x, .int .i64 c.y, .int .i64 c.t, .bool c.f]⟩, ⟨g13, 31, [.int .i64 a.x, .int .i64 a.y, .int .i64 a.t, .bool a.f]⟩, ⟨g14, 31, [.int .i64 b.x, .int .i64 b.y, .int .i64 b.t, .bool b.f]⟩, ⟨g15, 31, [.int .i64 c.x, .int .i64 c.y, .int .i64 c.t, .bool c.f]⟩, ⟨g16, 31, [.int .i64 ((aftM Wd Ht a b).x), .int .i64 ((aftM Wd Ht a b).y), .int .i64 ((aftM Wd Ht a b).t), .bool ((aftM Wd Ht a b).f)]⟩, ⟨g18, 31, [.int .i64 ((aftM Wd Ht (aftM Wd Ht a b) c).x), .int .i64 ((aftM Wd Ht (aftM Wd Ht a b) c).y), .int .i64 ((aftM Wd Ht (aftM Wd Ht a b) c).t), .bool ((aftM Wd Ht (aftM Wd Ht a b) c).f)]⟩, ⟨g20, 31, [.int .i64 ((aftM Wd Ht b c).x), .int .i64 ((aftM Wd Ht b c).y), .int .i64 ((aftM Wd Ht b c).t), .bool ((aftM Wd Ht b c).f)]⟩, ⟨g22, 31, [.int .i64 ((aftM Wd Ht (aftM Wd Ht a b) c).x), .int .i64 ((aftM Wd Ht (aftM Wd Ht a b) c).y), .int .i64 ((aftM Wd Ht (aftM Wd Ht a b) c).t), .bool ((aftM Wd Ht (aftM Wd Ht a b) c).f)]⟩, ⟨g24, 31, [.int .i64 ((invM Wd Ht a).x), .int .i64 ((invM Wd Ht a).y), .int .i64 ((invM Wd Ht a).t), .bool ((invM Wd Ht a).f)]⟩, ⟨g26, 31, [.int .i64 0, .int .i64 0, .int .i64 0, .bool false]⟩, ⟨g28, 31, [.int .i64 0, .int .i64 0, .int .i64 0, .bool false]⟩, ⟨g198, 3, ints (apL Wd Ht b.x b.y b.t b.f xs) ++ rest198⟩, ⟨g30, 27, [.int .i64 Wd, .int .i64 Ht, .slice (some ⟨g198, 0, none⟩) ((apL Wd Ht b.x b.y b.t b.f xs).length) k198]⟩] := HE.out.putF 15 rfl rfl
                        have HB' := putL_below (show w.heap.size ≤ g30 from G30.out) [.int .i64 Wd, .int .i64 Ht, .slice (some ⟨g198, 0, none⟩) ((apL Wd Ht b.x b.y b.t b.f xs).length) k198] _ 0 HB.out
                        generalize putL X21 g30 0 [.int .i64 Wd, .int .i64 Ht, .slice (some ⟨g198, 0, none⟩) ((apL Wd Ht b.x b.y b.t b.f xs).length) k198] = X22 at *
                        replace HE := Hd.mk HE'
                        replace HB := Hd.mk HB'
                        clear HE' HB'
                        go_upto_region 15 with fail
                        refine wp_region_vd 7 [201, 202, 203, 200, 204, 205, 31] [3, 4, 5] [6] 27 [.int .i64 0, .int .i64 0, .slice none 0 0] [isV (.agg #[.int .i64 a.x, .int .i64 a.y, .int .i64 a.t, .bool a.f]), isV (.agg #[.int .i64 Wd, .int .i64 Ht, .slice (some ⟨g198, 0, none⟩) ((apL Wd Ht b.x b.y b.t b.f xs).length) k198]), isP (isFS X22.heap.size Wd Ht (apL Wd Ht a.x a.y a.t a.f (apL Wd Ht b.x b.y b.t b.f xs))) (isV (.int .i64 0)), isP (isFS X22.heap.size Wd Ht (apL Wd Ht a.x a.y a.t a.f (apL Wd Ht b.x b.y b.t b.f xs))) (isV (.int .i64 0)), isFS X22.heap.size Wd Ht (apL Wd Ht a.x a.y a.t a.f (apL Wd Ht b.x b.y b.t b.f xs)), isV (.int .i64 0), SP.any] (by rfl) alloc_T ?_ ?_
                        · intro qi qh qA aa wx hb hs hd
                          match qi, qh, qA with
                          | 0, _, _ => exact .inl ⟨rfl, op_ldM rfl rfl (hs 13 rfl) ((HE.out.to hb).get 4 rfl)⟩
                          | 1, _, _ => exact .inl ⟨rfl, op_ldT rfl rfl (hs 30 rfl) ((HE.out.to hb).get 15 rfl)⟩
                          | 2, _, _ => exact .inl ⟨rfl, op_call2 rfl rfl Try.call13 (by rw [show aa.eval (.tmp 201) = .agg #[.int .i64 a.x, .int .i64 a.y, .int .i64 a.t, .bool a.f] from (hd 0 rfl)]; exact got_fsp hb.size (Apply_rd Wd Ht a.x a.y a.t a.f (apL Wd Ht b.x b.y b.t b.f xs) (apL_valid HV.out) (HA.out).al _ _ (rd_ex (xs := apL Wd Ht b.x b.y b.t b.f xs) (hd 1 rfl) ((HE.out.to hb).get 14 rfl).ri)))⟩
                          | 3, _, _ => exact .inl ⟨rfl, op_mv rfl (hd 2 rfl)⟩
                          | 4, _, _ => exact .inl ⟨rfl, op_fst rfl (hd 3 rfl)⟩
                          | 5, _, _ => exact .inl ⟨rfl, op_snd rfl (hd 3 rfl)⟩
                          | 6, _, h => cases h
                          | qi + 7, h, _ => omega
                        · intro vs X23 hb hv hal hne
                          have HL0 := Hd.mk (HE.out.lt)
                          have HBW := HB
                          replace HB := Hd.mk (bel_then HB.out hb)
                          replace HE : Hd (Env X23 [⟨w.heap.size, 24, [.int .i64 Wd, .int .i64 Ht, .slice A xs.length k]⟩, ⟨w.heap.size + 1, 26, [.int .i64 a.x, .int .i64 a.y, .int .i64 a.t, .bool a.f]⟩, ⟨w.heap.size + 1 + 1, 26, [.int .i64 b.x, .int .i64 b.y, .int .i64 b.t, .bool b.f]⟩, ⟨w.heap.size + 1 + 1 + 1, 26, [.int .i64 c.x, .int .i64 c.y, .int .i64 c.t, .bool c.f]⟩, ⟨g13, 31, [.int .i64 a.x, .int .i64 a.y, .int .i64 a.t, .bool a.f]⟩, ⟨g14, 31, [.int .i64 b.x, .int .i64 b.y, .int .i64 b.t, .bool b.f]⟩, ⟨g15, 31, [.int .i64 c.x, .int .i64 c.y, .int .i64 c.t, .bool c.f]⟩, ⟨g16, 31, [.int .i64 ((aftM Wd Ht a b).x), .int .i64 ((aftM Wd Ht a b).y), .int .i64 ((aftM Wd Ht a b).t), .bool ((aftM Wd Ht a b).f)]⟩, ⟨g18, 31, [.int .i64 ((aftM Wd Ht (aftM Wd Ht a b) c).x), .int .i64 ((aftM Wd Ht (aftM Wd Ht a b) c).y), .int .i64 ((aftM Wd Ht (aftM Wd Ht a b) c).t), .bool ((aftM Wd Ht (aftM Wd Ht a b) c).f)]⟩, ⟨g20, 31, [.int .i64 ((aftM Wd Ht b c).x), .int .i64 ((aftM Wd Ht b c).y), .int .i64 ((aftM Wd Ht b c).t), .bool ((aftM Wd Ht b c).f)]⟩, ⟨g22, 31, [.int .i64 ((aftM Wd Ht (aftM Wd Ht a b) c).x), .int .i64 ((aftM Wd Ht (aftM Wd Ht a b) c).y), .int .i64 ((aftM Wd Ht (aftM Wd Ht a b) c).t), .bool ((aftM Wd Ht (aftM Wd Ht a b) c).f)]⟩, ⟨g24, 31, [.int .i64 ((invM Wd Ht a).x), .int .i64 ((invM Wd Ht a).y), .int .i64 ((invM Wd Ht a).t), .bool ((invM Wd Ht a).f)]⟩, ⟨g26, 31, [.int .i64 0, .int .i64 0, .int .i64 0, .bool false]⟩, ⟨g28, 31, [.int .i64 0, .int .i64 0, .int .i64 0, .bool false]⟩, ⟨g198, 3, ints (apL Wd Ht b.x b.y b.t b.f xs) ++ rest198⟩, ⟨g30, 27, [.int .i64 Wd, .int .i64 Ht, .slice (some ⟨g198, 0, none⟩) ((apL Wd Ht b.x b.y b.t b.f xs).length) k198]⟩]) := ⟨HE.out.to hb⟩
                          have HLS := HL0
                          have t204 : (isFS X22.heap.size Wd Ht (apL Wd Ht a.x a.y a.t a.f (apL Wd Ht b.x b.y b.t b.f xs))).p (vs 204) X23 := hv 4 (by decide) rfl
                          obtain ⟨g204, k204, rest204, e204, l204, m204, n204, b204⟩ := t204
                          replace HE : Hd (Env X23 [⟨w.heap.size, 24, [.int .i64 Wd, .int .i64 Ht, .slice A xs.length k]⟩, ⟨w.heap.size + 1, 26, [.int .i64 a.x, .int .i64 a.y, .int .i64 a.t, .bool a.f]⟩, ⟨w.heap.size + 1 + 1, 26, [.int .i64 b.x, .int .i64 b.y, .int .i64 b.t, .bool b.f]⟩, ⟨w.heap.size + 1 + 1 + 1, 26, [.int .i64 c.x, .int .i64 c.y, .int .i64 c.t, .bool c.f]⟩, ⟨g13, 31, [.int .i64 a.x, .int .i64 a.y, .int .i64 a.t, .bool a.f]⟩, ⟨g14, 31, [.int .i64 b.x, .int .i64 b.y, .int .i64 b.t, .bool b.f]⟩, ⟨g15, 31, [.int .i64 c.x, .int .i64 c.y, .int .i64 c.t, .bool c.f]⟩, ⟨g16, 31, [.int .i64 ((aftM Wd Ht a b).x), .int .i64 ((aftM Wd Ht a b).y), .int .i64 ((aftM Wd Ht a b).t), .bool ((aftM Wd Ht a b).f)]⟩, ⟨g18, 31, [.int .i64 ((aftM Wd Ht (aftM Wd Ht a b) c).x), .int .i64 ((aftM Wd Ht (aftM Wd Ht a b) c).y), .int .i64 ((aftM Wd Ht (aftM Wd Ht a b) c).t), .bool ((aftM Wd Ht (aftM Wd Ht a b) c).f)]⟩, ⟨g20, 31, [.int .i64 ((aftM Wd Ht b c).x), .int .i64 ((aftM Wd Ht b c).y), .int .i64 ((aftM Wd Ht b c).t), .bool ((aftM Wd Ht b c).f)]⟩, ⟨g22, 31, [.int .i64 ((aftM Wd Ht (aftM Wd Ht a b) c).x), .int .i64 ((aftM Wd Ht (aftM Wd Ht a b) c).y), .int .i64 ((aftM Wd Ht (aftM Wd Ht a b) c).t), .bool ((aftM Wd Ht (aftM Wd Ht a b) c).f)]⟩, ⟨g24, 31, [.int .i64 ((invM Wd Ht a).x), .int .i64 ((invM Wd Ht a).y), .int .i64 ((invM Wd Ht a).t), .bool ((invM Wd Ht a).f)]⟩, ⟨g26, 31, [.int .i64 0, .int .i64 0, .int .i64 0, .bool false]⟩, ⟨g28, 31, [.int .i64 0, .int .i64 0, .int .i64 0, .bool false]⟩, ⟨g198, 3, ints (apL Wd Ht b.x b.y b.t b.f xs) ++ rest198⟩, ⟨g30, 27, [.int .i64 Wd, .int .i64 Ht, .slice (some ⟨g198, 0, none⟩) ((apL Wd Ht b.x b.y b.t b.f xs).length) k198]⟩, ⟨g204, 3, ints (apL Wd Ht a.x a.y a.t a.f (apL Wd Ht b.x b.y b.t b.f xs)) ++ rest204⟩]) := ⟨Env.addne (e := ⟨g204, 3, ints (apL Wd Ht a.x a.y a.t a.f (apL Wd Ht b.x b.y b.t b.f xs)) ++ rest204⟩) HE.out b204 (fun e' he => Nat.ne_of_lt (Nat.lt_of_lt_of_le (HL0.out e' he) l204))⟩
                          have G204 : Hd (w.heap.size ≤ g204) := ⟨Nat.le_trans HBW.out.size l204⟩
                          have e205 : vs 205 = .int .i64 0 := hv 5 (by decide) rfl
                          obtain ⟨g31, e31, l31, b31⟩ : ∃ g, vs 31 = .pointer (some ⟨g, 0, none⟩) ∧ _ := hal 6 rfl
                          replace HE : Hd (Env X23 [⟨w.heap.size, 24, [.int .i64 Wd, .int .i64 Ht, .slice A xs.length k]⟩, ⟨w.heap.size + 1, 26, [.int .i64 a.x, .int .i64 a.y, .int .i64 a.t, .bool a.f]⟩, ⟨w.heap.size + 1 + 1, 26, [.int .i64 b.x, .int .i64 b.y, .int .i64 b.t, .bool b.f]⟩, ⟨w.heap.size + 1 + 1 + 1, 26, [.int .i64 c.x, .int .i64 c.y, .int .i64 c.t, .bool c.f]⟩, ⟨g13, 31, [.int .i64 a.x, .int .i64 a.y, .int .i64 a.t, .bool a.f]⟩, ⟨g14, 31, [.int .i64 b.x, .int .i64 b.y, .int .i64 b.t, .bool b.f]⟩, ⟨g15, 31, [.int .i64 c.x, .int .i64 c.y, .int .i64 c.t, .bool c.f]⟩, ⟨g16, 31, [.int .i64 ((aftM Wd Ht a b).x), .int .i64 ((aftM Wd Ht a b).y), .int .i64 ((aftM Wd Ht a b).t), .bool ((aftM Wd Ht a b).f)]⟩, ⟨g18, 31, [.int .i64 ((aftM Wd Ht (aftM Wd Ht a b) c).x), .int .i64 ((aftM Wd Ht (aftM Wd Ht a b) c).y), .int .i64 ((aftM Wd Ht (aftM Wd Ht a b) c).t), .bool ((aftM Wd Ht (aftM Wd Ht a b) c).f)]⟩, ⟨g20, 31, [.int .i64 ((aftM Wd Ht b c).x), .int .i64 ((aftM Wd Ht b c).y), .int .i64 ((aftM Wd Ht b c).t), .bool ((aftM Wd Ht b c).f)]⟩, ⟨g22, 31, [.int .i64 ((aftM Wd Ht (aftM Wd Ht a b) c).x), .int .i64 ((aftM Wd Ht (aftM Wd Ht a b) c).y), .int .i64 ((aftM Wd Ht (aftM Wd Ht a b) c).t), .bool ((aftM Wd Ht (aftM Wd Ht a b) c).f)]⟩, ⟨g24, 31, [.int .i64 ((invM Wd Ht a).x), .int .i64 ((invM Wd Ht a).y), .int .i64 ((invM Wd Ht a).t), .bool ((invM Wd Ht a).f)]⟩, ⟨g26, 31, [.int .i64 0, .int .i64 0, .int .i64 0, .bool false]⟩, ⟨g28, 31, [.int .i64 0, .int .i64 0, .int .i64 0, .bool false]⟩, ⟨g198, 3, ints (apL Wd Ht b.x b.y b.t b.f xs) ++ rest198⟩, ⟨g30, 27, [.int .i64 Wd, .int .i64 Ht, .slice (some ⟨g198, 0, none⟩) ((apL Wd Ht b.x b.y b.t b.f xs).length) k198]⟩, ⟨g204, 3, ints (apL Wd Ht a.x a.y a.t a.f (apL Wd Ht b.x b.y b.t b.f xs)) ++ rest204⟩, ⟨g31, 27, [.int .i64 0, .int .i64 0, .slice none 0 0]⟩]) := ⟨Env.addne (e := ⟨g31, 27, [.int .i64 0, .int .i64 0, .slice none 0 0]⟩) HE.out b31 (fun e' he => (List.mem_append.1 (show e' ∈ _ ++ [_] from he)).elim (fun he => Nat.ne_of_lt (Nat.lt_of_lt_of_le (HL0.out e' he) l31)) (fun he => by rw [List.mem_singleton.1 he]; exact blk_ne b204 b31 (by decide)))⟩
                          have G31 : Hd (w.heap.size ≤ g31) := ⟨Nat.le_trans HBW.out.size l31⟩
                          simp only [putAll, List.foldl_cons, List.foldl_nil, Act.put, List.setIfInBounds_toArray, List.set_cons_succ, List.set_cons_zero, List.drop_succ_cons, List.drop_zero, e204, e205, e31]
                          generalize vs 201 = s201
                          generalize vs 202 = s202
                          generalize vs 203 = s203
                          generalize vs 200 = s200
                          clear hv hal hne hb HL0 HBW HLS e204 e205 e31 l204 b204 l31 b31
                          refine wpList_st rfl rfl rfl rfl rfl (sto_T (HE.out.get 17 rfl)) ?_
                          have HE' : Env (putL X23 g31 0 [.int .i64 Wd, .int .i64 Ht, .slice (some ⟨g204, 0, none⟩) ((apL Wd Ht a.x a.y a.t a.f (apL Wd Ht b.x b.y b.t b.f xs)).length) k204]) [⟨w.heap.size, 24, [.int .i64 Wd, .int .i64 Ht, .slice A xs.length k]⟩, ⟨w.heap.size + 1, 26, [.int .i64 a.x, .int .i64 a.y, .int .i64 a.t, .bool a.f]⟩, ⟨w.heap.size + 1 + 1, 26, [.int .i64 b.x, .int .i64 b.y, .int .i64 b.t, .bool b.f]⟩, ⟨w.heap.size + 1 + 1 + 1, 26, [.int .i64 c.x, .int .i64 c.y, .int .i64 c.t, .bool c.f]⟩, ⟨g13, 31, [.int .i64 a.x, .int .i64 a.y, .int .i64 a.t, .bool a.f]⟩, ⟨g14, 31, [.int .i64 b.x, .int .i64 b.y, .int .i64 b.t, .bool b.f]⟩, ⟨g15, 31, [.int .i64 c.x, .int .i64 c.y, .int .i64 c.t, .bool c.f]⟩, ⟨g16, 31, [.int .i64 ((aftM Wd Ht a b).x), .int .i64 ((aftM Wd Ht a b).y), .int .i64 ((aftM Wd Ht a b).t), .bool ((aftM Wd Ht a b).f)]⟩, ⟨g18, 31, [.int .i64 ((aftM Wd Ht (aftM Wd Ht a b) c).x), .int .i64 ((aftM Wd Ht (aftM Wd Ht a b) c).y), .int .i64 ((aftM Wd Ht (aftM Wd Ht a b) c).t), .bool ((aftM Wd Ht (aftM Wd Ht a b) c).f)]⟩, ⟨g20, 31, [.int .i64 ((aftM Wd Ht b c).x), .int .i64 ((aftM Wd Ht b c).y), .int .i64 ((aftM Wd Ht b c).t), .bool ((aftM Wd Ht b c).f)]⟩, ⟨g22, 31, [.int .i64 ((aftM Wd Ht (aftM Wd Ht a b) c).x), .int .i64 ((aftM Wd Ht (aftM Wd Ht a b) c).y), .int .i64 ((aftM Wd Ht (aftM Wd Ht a b) c).t), .bool ((aftM Wd Ht (aftM Wd Ht a b) c).f)]⟩, ⟨g24, 31, [.int .i64 ((invM Wd Ht a).x), .int .i64 ((invM Wd Ht a).y), .int .i64 ((invM Wd Ht a).t), .bool ((invM Wd Ht a).f)]⟩, ⟨g26, 31, [.int .i64 0, .int .i64 0, .int .i64 0, .bool false]⟩, ⟨g28, 31, [.int .i64 0, .int .i64 0, .int .i64 0, .bool false]⟩, ⟨g198, 3, ints (apL Wd Ht b.x b.y b.t b.f xs) ++ rest198⟩, ⟨g30, 27, [.int .i64 Wd, .int .i64 Ht, .slice (some ⟨g198, 0, none⟩) ((apL Wd Ht b.x b.y b.t b.f xs).length) k198]⟩, ⟨g204, 3, ints (apL Wd Ht a.x a.y a.t a.f (apL Wd Ht b.x b.y b.t b.f xs)) ++ rest204⟩, ⟨g31, 27, [.int .i64 Wd, .int .i64 Ht, .slice (some ⟨g204, 0, none⟩) ((apL Wd Ht a.x a.y a.t a.f (apL Wd Ht b.x b.y b.t b.f xs)).length) k204]⟩] := HE.out.putF 17 rfl rfl
                          have HB' := putL_below (show w.heap.size ≤ g31 from G31.out) [.int .i64 Wd, .int .i64 Ht, .slice (some ⟨g204, 0, none⟩) ((apL Wd Ht a.x a.y a.t a.f (apL Wd Ht b.x b.y b.t b.f xs)).length) k204] _ 0 HB.out
                          generalize putL X23 g31 0 [.int .i64 Wd, .int .i64 Ht, .slice (some ⟨g204, 0, none⟩) ((apL Wd Ht a.x a.y a.t a.f (apL Wd Ht b.x b.y b.t b.f xs)).length) k204] = X24 at *
                          replace HE := Hd.mk HE'
                          replace HB := Hd.mk HB'
                          clear HE' HB'
                          go_upto_region 16 with fail
                          refine wp_region_vs 8 [207, 208, 209, 210, 206, 211, 212, 32] [4, 5, 6] [7] 27 [.int .i64 0, .int .i64 0, .slice none 0 0] [isV (.agg #[.int .i64 ((aftM Wd Ht a b).x), .int .i64 ((aftM Wd Ht a b).y), .int .i64 ((aftM Wd Ht a b).t), .bool ((aftM Wd Ht a b).f)]), isV (.agg #[.int .i64 Wd, .int .i64 Ht, .slice A xs.length k]), isSt X24.heap.size Wd Ht xs, isP (isFS X24.heap.size Wd Ht (apL Wd Ht ((aftM Wd Ht a b).x) ((aftM Wd Ht a b).y) ((aftM Wd Ht a b).t) ((aftM Wd Ht a b).f) xs)) (isV (.int .i64 0)), isP (isFS X24.heap.size Wd Ht (apL Wd Ht ((aftM Wd Ht a b).x) ((aftM Wd Ht a b).y) ((aftM Wd Ht a b).t) ((aftM Wd Ht a b).f) xs)) (isV (.int .i64 0)), isFS X24.heap.size Wd Ht (apL Wd Ht ((aftM Wd Ht a b).x) ((aftM Wd Ht a b).y) ((aftM Wd Ht a b).t) ((aftM Wd Ht a b).f) xs), isV (.int .i64 0), SP.any] (by kernel_rfl) (by kernel_rfl) (by kernel_rfl) (by rfl) alloc_T (fun d v c a w h => by cases d <;> exact h) ?_ ?_
                          · intro qi qh qA aa wx hb hs hd
                            match qi, qh, qA with
                            | 0, _, _ => exact op_ldM rfl rfl (hs 16 rfl) ((HE.out.to hb).get 7 rfl)
                            | 1, _, _ => exact op_ldU rfl rfl (hs 4 rfl) ((HE.out.to hb).get 0 rfl)
                            | 2, _, _ => exact op_call1 rfl rfl Try.call15 (by rw [(show aa.eval (.tmp 208) = .agg #[.int .i64 Wd, .int .i64 Ht, .slice A xs.length k] from (hd 1 rfl))]; exact got_st hb.size (HSTY.out _ (HRI.out.to (bel_then HB.out hb))))
                            | 3, _, _ => exact op_call2 rfl rfl Try.call13 (by rw [show aa.eval (.tmp 207) = .agg #[.int .i64 ((aftM Wd Ht a b).x), .int .i64 ((aftM Wd Ht a b).y), .int .i64 ((aftM Wd Ht a b).t), .bool ((aftM Wd Ht a b).f)] from (hd 0 rfl)]; exact got_fsp hb.size (Apply_rd Wd Ht ((aftM Wd Ht a b).x) ((aftM Wd Ht a b).y) ((aftM Wd Ht a b).t) ((aftM Wd Ht a b).f) xs HV.out ((aft_al HA.out HB2.out)).al _ _ (rd_st (hd 2 rfl))))
                            | 4, _, _ => exact op_mv rfl (hd 3 rfl)
                            | 5, _, _ => exact op_fst rfl (hd 4 rfl)
                            | 6, _, _ => exact op_snd rfl (hd 4 rfl)
                            | 7, _, h => cases h
                            | qi + 8, h, _ => omega
                          · intro vs X25 hb hv hal hne
                            have HL0 := Hd.mk (HE.out.lt)
                            have HBW := HB
                            replace HB := Hd.mk (bel_then HB.out hb)
                            replace HE : Hd (Env X25 [⟨w.heap.size, 24, [.int .i64 Wd, .int .i64 Ht, .slice A xs.length k]⟩, ⟨w.heap.size + 1, 26, [.int .i64 a.x, .int .i64 a.y, .int .i64 a.t, .bool a.f]⟩, ⟨w.heap.size + 1 + 1, 26, [.int .i64 b.x, .int .i64 b.y, .int .i64 b.t, .bool b.f]⟩, ⟨w.heap.size + 1 + 1 + 1, 26, [.int .i64 c.x, .int .i64 c.y, .int .i64 c.t, .bool c.f]⟩, ⟨g13, 31, [.int .i64 a.x, .int .i64 a.y, .int .i64 a.t, .bool a.f]⟩, ⟨g14, 31, [.int .i64 b.x, .int .i64 b.y, .int .i64 b.t, .bool b.f]⟩, ⟨g15, 31, [.int .i64 c.x, .int .i64 c.y, .int .i64 c.t, .bool c.f]⟩, ⟨g16, 31, [.int .i64 ((aftM Wd Ht a b).x), .int .i64 ((aftM Wd Ht a b).y), .int .i64 ((aftM Wd Ht a b).t), .bool ((aftM Wd Ht a b).f)]⟩, ⟨g18, 31, [.int .i64 ((aftM Wd Ht (aftM Wd Ht a b) c).x), .int .i64 ((aftM Wd Ht (aftM Wd Ht a b) c).y), .int .i64 ((aftM Wd Ht (aftM Wd Ht a b) c).t), .bool ((aftM Wd Ht (aftM Wd Ht a b) c).f)]⟩, ⟨g20, 31, [.int .i64 ((aftM Wd Ht b c).x), .int .i64 ((aftM Wd Ht b c).y), .int .i64 ((aftM Wd Ht b c).t), .bool ((aftM Wd Ht b c).f)]⟩, ⟨g22, 31, [.int .i64 ((aftM Wd Ht (aftM Wd Ht a b) c).x), .int .i64 ((aftM Wd Ht (aftM Wd Ht a b) c).y), .int .i64 ((aftM Wd Ht (aftM Wd Ht a b) c).t), .bool ((aftM Wd Ht (aftM Wd Ht a b) c).f)]⟩, ⟨g24, 31, [.int .i64 ((invM Wd Ht a).x), .int .i64 ((invM Wd Ht a).y), .int .i64 ((invM Wd Ht a).t), .bool ((invM Wd Ht a).f)]⟩, ⟨g26, 31, [.int .i64 0, .int .i64 0, .int .i64 0, .bool false]⟩, ⟨g28, 31, [.int .i64 0, .int .i64 0, .int .i64 0, .bool false]⟩, ⟨g198, 3, ints (apL Wd Ht b.x b.y b.t b.f xs) ++ rest198⟩, ⟨g30, 27, [.int .i64 Wd, .int .i64 Ht, .slice (some ⟨g198, 0, none⟩) ((apL Wd Ht b.x b.y b.t b.f xs).length) k198]⟩, ⟨g204, 3, ints (apL Wd Ht a.x a.y a.t a.f (apL Wd Ht b.x b.y b.t b.f xs)) ++ rest204⟩, ⟨g31, 27, [.int .i64 Wd, .int .i64 Ht, .slice (some ⟨g204, 0, none⟩) ((apL Wd Ht a.x a.y a.t a.f (apL Wd Ht b.x b.y b.t b.f xs)).length) k204]⟩]) := ⟨HE.out.to hb⟩
                            have HLS := HL0
                            have t211 : (isFS X24.heap.size Wd Ht (apL Wd Ht ((aftM Wd Ht a b).x) ((aftM Wd Ht a b).y) ((aftM Wd Ht a b).t) ((aftM Wd Ht a b).f) xs)).p (vs 211) X25 := hv 5 (by decide) rfl
                            obtain ⟨g211, k211, rest211, e211, l211, m211, n211, b211⟩ := t211
                            replace HE : Hd (Env X25 [⟨w.heap.size, 24, [.int .i64 Wd, .int .i64 Ht, .slice A xs.length k]⟩, ⟨w.heap.size + 1, 26, [.int .i64 a.x, .int .i64 a.y, .int .i64 a.t, .bool a.f]⟩, ⟨w.heap.size + 1 + 1, 26, [.int .i64 b.x, .int .i64 b.y, .int .i64 b.t, .bool b.f]⟩, ⟨w.heap.size + 1 + 1 + 1, 26, [.int .i64 c.x, .int .i64 c.y, .int .i64 c.t, .bool c.f]⟩, ⟨g13, 31, [.int .i64 a.x, .int .i64 a.y, .int .i64 a.t, .bool a.f]⟩, ⟨g14, 31, [.int .i64 b.x, .int .i64 b.y, .int .i64 b.t, .bool b.f]⟩, ⟨g15, 31, [.int .i64 c.x, .int .i64 c.y, .int .i64 c.t, .bool c.f]⟩, ⟨g16, 31, [.int .i64 ((aftM Wd Ht a b).x), .int .i64 ((aftM Wd Ht a b).y), .int .i64 ((aftM Wd Ht a b).t), .bool ((aftM Wd Ht a b).f)]⟩, ⟨g18, 31, [.int .i64 ((aftM Wd Ht (aftM Wd Ht a b) c).x), .int .i64 ((aftM Wd Ht (aftM Wd Ht a b) c).y), .int .i64 ((aftM Wd Ht (aftM Wd Ht a b) c).t), .bool ((aftM Wd Ht (aftM Wd Ht a b) c).f)]⟩, ⟨g20, 31, [.int .i64 ((aftM Wd Ht b c).x), .int .i64 ((aftM Wd Ht b c).y), .int .i64 ((aftM Wd Ht b c).t), .bool ((aftM Wd Ht b c).f)]⟩, ⟨g22, 31, [.int .i64 ((aftM Wd Ht (aftM Wd Ht a b) c).x), .int .i64 ((aftM Wd Ht (aftM Wd Ht a b) c).y), .int .i64 ((aftM Wd Ht (aftM Wd Ht a b) c).t), .bool ((aftM Wd Ht (aftM Wd Ht a b) c).f)]⟩, ⟨g24, 31, [.int .i64 ((invM Wd Ht a).x), .int .i64 ((invM Wd Ht a).y), .int .i64 ((invM Wd Ht a).t), .bool ((invM Wd Ht a).f)]⟩, ⟨g26, 31, [.int .i64 0, .int .i64 0, .int .i64 0, .bool false]⟩, ⟨g28, 31, [.int .i64 0, .int .i64 0, .int .i64 0, .bool false]⟩, ⟨g198, 3, ints (apL Wd Ht b.x b.y b.t b.f xs) ++ rest198⟩, ⟨g30, 27, [.int .i64 Wd, .int .i64 Ht, .slice (some ⟨g198, 0, none⟩) ((apL Wd Ht b.x b.y b.t b.f xs).length) k198]⟩, ⟨g204, 3, ints (apL Wd Ht a.x a.y a.t a.f (apL Wd Ht b.x b.y b.t b.f xs)) ++ rest204⟩, ⟨g31, 27, [.int .i64 Wd, .int .i64 Ht, .slice (some ⟨g204, 0, none⟩) ((apL Wd Ht a.x a.y a.t a.f (apL Wd Ht b.x b.y b.t b.f xs)).length) k204]⟩, ⟨g211, 3, ints (apL Wd Ht ((aftM Wd Ht a b).x) ((aftM Wd Ht a b).y) ((aftM Wd Ht a b).t) ((aftM Wd Ht a b).f) xs) ++ rest211⟩]) := ⟨Env.addne (e := ⟨g211, 3, ints (apL Wd Ht ((aftM Wd Ht a b).x) ((aftM Wd Ht a b).y) ((aftM Wd Ht a b).t) ((aftM Wd Ht a b).f) xs) ++ rest211⟩) HE.out b211 (fun e' he => Nat.ne_of_lt (Nat.lt_of_lt_of_le (HL0.out e' he) l211))⟩
                            have G211 : Hd (w.heap.size ≤ g211) := ⟨Nat.le_trans HBW.out.size l211⟩
                            have e212 : vs 212 = .int .i64 0 := hv 6 (by decide) rfl
                            obtain ⟨g32, e32, l32, b32⟩ : ∃ g, vs 32 = .pointer (some ⟨g, 0, none⟩) ∧ _ := hal 7 rfl
                            replace HE : Hd (Env X25 [⟨w.heap.size, 24, [.int .i64 Wd, .int .i64 Ht, .slice A xs.length k]⟩, ⟨w.heap.size + 1, 26, [.int .i64 a.x, .int .i64 a.y, .int .i64 a.t, .bool a.f]⟩, ⟨w.heap.size + 1 + 1, 26, [.int .i64 b.x, .int .i64 b.y, .int .i64 b.t, .bool b.f]⟩, ⟨w.heap.size + 1 + 1 + 1, 26, [.int .i64 c.x, .int .i64 c.y, .int .i64 c.t, .bool c.f]⟩, ⟨g13, 31, [.int .i64 a.x, .int .i64 a.y, .int .i64 a.t, .bool a.f]⟩, ⟨g14, 31, [.int .i64 b.x, .int .i64 b.y, .int .i64 b.t, .bool b.f]⟩, ⟨g15, 31, [.int .i64 c.x, .int .i64 c.y, .int .i64 c.t, .bool c.f]⟩, ⟨g16, 31, [.int .i64 ((aftM Wd Ht a b).x), .int .i64 ((aftM Wd Ht a b).y), .int .i64 ((aftM Wd Ht a b).t), .bool ((aftM Wd Ht a b).f)]⟩, ⟨g18, 31, [.int .i64 ((aftM Wd Ht (aftM Wd Ht a b) c).x), .int .i64 ((aftM Wd Ht (aftM Wd Ht a b) c).y), .int .i64 ((aftM Wd Ht (aftM Wd Ht a b) c).t), .bool ((aftM Wd Ht (aftM Wd Ht a b) c).f)]⟩, ⟨g20, 31, [.int .i64 ((aftM Wd Ht b c).x), .int .i64 ((aftM Wd Ht b c).y), .int .i64 ((aftM Wd Ht b c).t), .bool ((aftM Wd Ht b c).f)]⟩, ⟨g22, 31, [.int .i64 ((aftM Wd Ht (aftM Wd Ht a b) c).x), .int .i64 ((aftM Wd Ht (aftM Wd Ht a b) c).y), .int .i64 ((aftM Wd Ht (aftM Wd Ht a b) c).t), .bool ((aftM Wd Ht (aftM Wd Ht a b) c).f)]⟩, ⟨g24, 31, [.int .i64 ((invM Wd Ht a).x), .int .i64 ((invM Wd Ht a).y), .int .i64 ((invM Wd Ht a).t), .bool ((invM Wd Ht a).f)]⟩, ⟨g26, 31, [.int .i64 0, .int .i64 0, .int .i64 0, .bool false]⟩, ⟨g28, 31, [.int .i64 0, .int .i64 0, .int .i64 0, .bool false]⟩, ⟨g198, 3, ints (apL Wd Ht b.x b.y b.t b.f xs) ++ rest198⟩, ⟨g30, 27, [.int .i64 Wd, .int .i64 Ht, .slice (some ⟨g198, 0, none⟩) ((apL Wd Ht b.x b.y b.t b.f xs).length) k198]⟩, ⟨g204, 3, ints (apL Wd Ht a.x a.y a.t a.f (apL Wd Ht b.x b.y b.t b.f xs)) ++ rest204⟩, ⟨g31, 27, [.int .i64 Wd, .int .i64 Ht, .slice (some ⟨g204, 0, none⟩) ((apL Wd Ht a.x a.y a.t a.f (apL Wd Ht b.x b.y b.t b.f xs)).length) k204]⟩, ⟨g211, 3, ints (apL Wd Ht ((aftM Wd Ht a b).x) ((aftM Wd Ht a b).y) ((aftM Wd Ht a b).t) ((aftM Wd Ht a b).f) xs) ++ rest211⟩, ⟨g32, 27, [.int .i64 0, .int .i64 0, .slice none 0 0]⟩]) := ⟨Env.addne (e := ⟨g32, 27, [.int .i64 0, .int .i64 0, .slice none 0 0]⟩) HE.out b32 (fun e' he => (List.mem_append.1 (show e' ∈ _ ++ [_] from he)).elim (fun he => Nat.ne_of_lt (Nat.lt_of_lt_of_le (HL0.out e' he) l32)) (fun he => by rw [List.mem_singleton.1 he]; exact blk_ne b211 b32 (by decide)))⟩
                            have G32 : Hd (w.heap.size ≤ g32) := ⟨Nat.le_trans HBW.out.size l32⟩
                            simp only [putAll, List.foldl_cons, List.foldl_nil, Act.put, List.setIfInBounds_toArray, List.set_cons_succ, List.set_cons_zero, List.drop_succ_cons, List.drop_zero, e211, e212, e32]
                            generalize vs 207 = s207
                            generalize vs 208 = s208
                            generalize vs 209 = s209
                            generalize vs 210 = s210
                            generalize vs 206 = s206
                            clear hv hal hne hb HL0 HBW HLS e211 e212 e32 l211 b211 l32 b32
                            refine wpList_st rfl rfl rfl rfl rfl (sto_T (HE.out.get 19 rfl)) ?_
                            have HE' : Env (putL X25 g32 0 [.int .i64 Wd, .int .i64 Ht, .slice (some ⟨g211, 0, none⟩) ((apL Wd Ht ((aftM Wd Ht a b).x) ((aftM Wd Ht a b).y) ((aftM Wd Ht a b).t) ((aftM Wd Ht a b).f) xs).length) k211]) [⟨w.heap.size, 24, [.int .i64 Wd, .int .i64 Ht, .slice A xs.length k]⟩, ⟨w.heap.size + 1, 26, [.int .i64 a.x, .int .i64 a.y, .int .i64 a.t, .bool a.f]⟩, ⟨w.heap.size + 1 + 1, 26, [.int .i64 b.x, .int .i64 b.y, .int .i64 b.t, .bool b.f]⟩, ⟨w.heap.size + 1 + 1 + 1, 26, [.int .i64 c.x, .int .i64 c.y, .int .i64 c.t, .bool c.f]⟩, ⟨g13, 31, [.int .i64 a.x, .int .i64 a.y, .int .i64 a.t, .bool a.f]⟩, ⟨g14, 31, [.int .i64 b.x, .int .i64 b.y, .int .i64 b.t, .bool b.f]⟩, ⟨g15, 31, [.int .i64 c.x, .int .i64 c.y, .int .i64 c.t, .bool c.f]⟩, ⟨g16, 31, [.int .i64 ((aftM Wd Ht a b).x), .int .i64 ((aftM Wd Ht a b).y), .int .i64 ((aftM Wd Ht a b).t), .bool ((aftM Wd Ht a b).f)]⟩, ⟨g18, 31, [.int .i64 ((aftM Wd Ht (aftM Wd Ht a b) c).x), .int .i64 ((aftM Wd Ht (aftM Wd Ht a b) c).y), .int .i64 ((aftM Wd Ht (aftM Wd Ht a b) c).t), .bool ((aftM Wd Ht (aftM Wd Ht a b) c).f)]⟩, ⟨g20, 31, [.int .i64 ((aftM Wd Ht b c).x), .int .i64 ((aftM Wd Ht b c).y), .int .i64 ((aftM Wd Ht b c).t), .bool ((aftM Wd Ht b c).f)]⟩, ⟨g22, 31, [.int .i64 ((aftM Wd Ht (aftM Wd Ht a b) c).x), .int .i64 ((aftM Wd Ht (aftM Wd Ht a b) c).y), .int .i64 ((aftM Wd Ht (aftM Wd Ht a b) c).t), .bool ((aftM Wd Ht (aftM Wd Ht a b) c).f)]⟩, ⟨g24, 31, [.int .i64 ((invM Wd Ht a).x), .int .i64 ((invM Wd Ht a).y), .int .i64 ((invM Wd Ht a).t), .bool ((invM Wd Ht a).f)]⟩, ⟨g26, 31, [.int .i64 0, .int .i64 0, .int .i64 0, .bool false]⟩, ⟨g28, 31, [.int .i64 0, .int .i64 0, .int .i64 0, .bool false]⟩, ⟨g198, 3, ints (apL Wd Ht b.x b.y b.t b.f xs) ++ rest198⟩, ⟨g30, 27, [.int .i64 Wd, .int .i64 Ht, .slice (some ⟨g198, 0, none⟩) ((apL Wd Ht b.x b.y b.t b.f xs).length) k198]⟩, ⟨g204, 3, ints (apL Wd Ht a.x a.y a.t a.f (apL Wd Ht b.x b.y b.t b.f xs)) ++ rest204⟩, ⟨g31, 27, [.int .i64 Wd, .int .i64 Ht, .slice (some ⟨g204, 0, none⟩) ((apL Wd Ht a.x a.y a.t a.f (apL Wd Ht b.x b.y b.t b.f xs)).length) k204]⟩, ⟨g211, 3, ints (apL Wd Ht ((aftM Wd Ht a b).x) ((aftM Wd Ht a b).y) ((aftM Wd Ht a b).t) ((aftM Wd Ht a b).f) xs) ++ rest211⟩, ⟨g32, 27, [.int .i64 Wd, .int .i64 Ht, .slice (some ⟨g211, 0, none⟩) ((apL Wd Ht ((aftM Wd Ht a b).x) ((aftM Wd Ht a b).y) ((aftM Wd Ht a b).t) ((aftM Wd Ht a b).f) xs).length) k211]⟩] := HE.out.putF 19 rfl rfl
                            have HB' := putL_below (show w.heap.size ≤ g32 from G32.out) [.int .i64 Wd, .int .i64 Ht, .slice (some ⟨g211, 0, none⟩) ((apL Wd Ht ((aftM Wd Ht a b).x) ((aftM Wd Ht a b).y) ((aftM Wd Ht a b).t) ((aftM Wd Ht a b).f) xs).length) k211] _ 0 HB.out
                            generalize putL X25 g32 0 [.int .i64 Wd, .int .i64 Ht, .slice (some ⟨g211, 0, none⟩) ((apL Wd Ht ((aftM Wd Ht a b).x) ((aftM Wd Ht a b).y) ((aftM Wd Ht a b).t) ((aftM Wd Ht a b).f) xs).length) k211] = X26 at *
                            replace HE := Hd.mk HE'
                            replace HB := Hd.mk HB'
                            clear HE' HB'
                            go_upto_region 17 with fail
                            refine wp_region_vg 21 [213, 214, 215, 216, 217, 218, 219, 220, 221, 222, 223, 224, 225, 226, 227, 228, 229, 230, 231, 232, 8] [0, 1, 2, 3, 4, 5, 6, 7, 8, 9, 10, 16, 17, 19, 20] [] 84 [.int .i64 0, .int .i64 0] [isV (.int .i64 0), isV (.bool true), isV (.bool true), isV (.int .i64 0), isV (.bool true), isV (.bool true), isV (.bool true), isV (.int .i64 0), isV (.bool true), isV (.bool true), isV (.bool true), isV (.agg #[.int .i64 Wd, .int .i64 Ht, .slice (some ⟨g204, 0, none⟩) ((apL Wd Ht a.x a.y a.t a.f (apL Wd Ht b.x b.y b.t b.f xs)).length) k204]), isV (.agg #[.int .i64 Wd, .int .i64 Ht, .slice (some ⟨g204, 0, none⟩) ((apL Wd Ht a.x a.y a.t a.f (apL Wd Ht b.x b.y b.t b.f xs)).length) k204]), isV (.agg #[.int .i64 Wd, .int .i64 Ht, .slice (some ⟨g211, 0, none⟩) ((apL Wd Ht ((aftM Wd Ht a b).x) ((aftM Wd Ht a b).y) ((aftM Wd Ht a b).t) ((aftM Wd Ht a b).f) xs).length) k211]), isV (.agg #[.int .i64 Wd, .int .i64 Ht, .slice (some ⟨g211, 0, none⟩) ((apL Wd Ht ((aftM Wd Ht a b).x) ((aftM Wd Ht a b).y) ((aftM Wd Ht a b).t) ((aftM Wd Ht a b).f) xs).length) k211]), isV (.bool true), isV (.bool true), isV (.bool true), isV (.bool true), isV (.bool true), isV (.bool true)] (by kernel_rfl) (by kernel_rfl) (by kernel_rfl) (by rfl) alloc_Z (fun d v c a w h => by cases d <;> exact h) ?_ ?_
                            · intro qi qh qA aa wx hb hs hd
                              match qi, qh, qA with
                              | 0, _, _ => exact .inl ⟨rfl, op_mv rfl (hs 17 rfl)⟩
                              | 1, _, _ => exact .inl ⟨rfl, pure_b (bool_eq (by decide)) (⟨_, op_eqlE rfl (hd 0 rfl) rfl, rfl⟩)⟩
                              | 2, _, _ => exact .inl ⟨rfl, op_mv rfl (hd 1 rfl)⟩
                              | 3, _, _ => exact .inl ⟨⟨rfl, .inl (hd 2 rfl)⟩, op_mv rfl (hs 19 rfl)⟩
                              | 4, _, _ => exact .inl ⟨⟨rfl, .inl (hd 2 rfl)⟩, pure_b (bool_eq (by decide)) (⟨_, op_eqlE rfl (hd 3 rfl) rfl, rfl⟩)⟩
                              | 5, _, _ => exact .inl ⟨rfl, ⟨_, op_pickT rfl (hd 2 rfl) (hd 4 rfl), rfl⟩⟩
                              | 6, _, _ => exact .inl ⟨rfl, op_mv rfl (hd 5 rfl)⟩
                              | 7, _, _ => exact .inl ⟨⟨rfl, .inl (hd 6 rfl)⟩, op_mv rfl (hs 21 rfl)⟩
                              | 8, _, _ => exact .inl ⟨⟨rfl, .inl (hd 6 rfl)⟩, pure_b (bool_eq (by decide)) (⟨_, op_eqlE rfl (hd 7 rfl) rfl, rfl⟩)⟩
                              | 9, _, _ => exact .inl ⟨rfl, ⟨_, op_pickT rfl (hd 6 rfl) (hd 8 rfl), rfl⟩⟩
                              | 10, _, _ => exact .inl ⟨rfl, op_mv rfl (hd 9 rfl)⟩
                              | 11, _, _ => exact .inl ⟨⟨rfl, .inl (hd 10 rfl)⟩, op_ldT rfl rfl (hs 31 rfl) ((HE.out.to hb).get 17 rfl)⟩
                              | 12, _, _ => exact .inl ⟨⟨rfl, .inl (hd 10 rfl)⟩, op_call1 rfl rfl Try.call21 (by rw [(show aa.eval (.tmp 224) = .agg #[.int .i64 Wd, .int .i64 Ht, .slice (some ⟨g204, 0, none⟩) ((apL Wd Ht a.x a.y a.t a.f (apL Wd Ht b.x b.y b.t b.f xs)).length) k204] from (hd 11 rfl))]; exact own_got Wd Ht (some ⟨g204, 0, none⟩) ((apL Wd Ht a.x a.y a.t a.f (apL Wd Ht b.x b.y b.t b.f xs)).length) k204 _)⟩
                              | 13, _, _ => exact .inl ⟨⟨rfl, .inl (hd 10 rfl)⟩, op_ldT rfl rfl (hs 32 rfl) ((HE.out.to hb).get 19 rfl)⟩
                              | 14, _, _ => exact .inl ⟨⟨rfl, .inl (hd 10 rfl)⟩, op_call1 rfl rfl Try.call21 (by rw [(show aa.eval (.tmp 226) = .agg #[.int .i64 Wd, .int .i64 Ht, .slice (some ⟨g211, 0, none⟩) ((apL Wd Ht ((aftM Wd Ht a b).x) ((aftM Wd Ht a b).y) ((aftM Wd Ht a b).t) ((aftM Wd Ht a b).f) xs).length) k211] from (hd 13 rfl))]; exact own_got Wd Ht (some ⟨g211, 0, none⟩) ((apL Wd Ht ((aftM Wd Ht a b).x) ((aftM Wd Ht a b).y) ((aftM Wd Ht a b).t) ((aftM Wd Ht a b).f) xs).length) k211 _)⟩
                              | 15, _, _ => exact .inl ⟨⟨rfl, .inl (hd 10 rfl)⟩, op_call2 rfl rfl Try.call20 (same_eq Wd Ht (apL Wd Ht a.x a.y a.t a.f (apL Wd Ht b.x b.y b.t b.f xs)) HCMP.out (by simp only [apL_length]; omega) _ _ _ (rd_ex (xs := apL Wd Ht a.x a.y a.t a.f (apL Wd Ht b.x b.y b.t b.f xs)) (hd 12 rfl) ((HE.out.to hb).get 16 rfl).ri) (rd_ex (xs := apL Wd Ht ((aftM Wd Ht a b).x) ((aftM Wd Ht a b).y) ((aftM Wd Ht a b).t) ((aftM Wd Ht a b).f) xs) (hd 14 rfl) ((HE.out.to hb).get 18 rfl).ri))⟩
                              | 16, _, _ => exact .inl ⟨rfl, ⟨_, op_pickT rfl (hd 10 rfl) (hd 15 rfl), rfl⟩⟩
                              | 17, _, _ => exact .inl ⟨rfl, op_mv rfl (hd 16 rfl)⟩
                              | 18, _, _ => exact .inl ⟨⟨rfl, .inl (hd 17 rfl)⟩, op_call0 rfl rfl Try.call18 (awake_got _)⟩
                              | 19, _, _ => exact .inl ⟨rfl, ⟨_, op_pickT rfl (hd 17 rfl) (hd 18 rfl), rfl⟩⟩
                              | 20, _, _ => exact .inl ⟨rfl, op_asg rfl (hd 19 rfl)⟩
                              | qi + 21, h, _ => omega
                            · intro vs X27 hb hv hal hne
                              have HL0 := Hd.mk (HE.out.lt)
                              have HBW := HB
                              replace HB := Hd.mk (bel_then HB.out hb)
                              replace HE : Hd (Env X27 [⟨w.heap.size, 24, [.int .i64 Wd, .int .i64 Ht, .slice A xs.length k]⟩, ⟨w.heap.size + 1, 26, [.int .i64 a.x, .int .i64 a.y, .int .i64 a.t, .bool a.f]⟩, ⟨w.heap.size + 1 + 1, 26, [.int .i64 b.x, .int .i64 b.y, .int .i64 b.t, .bool b.f]⟩, ⟨w.heap.size + 1 + 1 + 1, 26, [.int .i64 c.x, .int .i64 c.y, .int .i64 c.t, .bool c.f]⟩, ⟨g13, 31, [.int .i64 a.x, .int .i64 a.y, .int .i64 a.t, .bool a.f]⟩, ⟨g14, 31, [.int .i64 b.x, .int .i64 b.y, .int .i64 b.t, .bool b.f]⟩, ⟨g15, 31, [.int .i64 c.x, .int .i64 c.y, .int .i64 c.t, .bool c.f]⟩, ⟨g16, 31, [.int .i64 ((aftM Wd Ht a b).x), .int .i64 ((aftM Wd Ht a b).y), .int .i64 ((aftM Wd Ht a b).t), .bool ((aftM Wd Ht a b).f)]⟩, ⟨g18, 31, [.int .i64 ((aftM Wd Ht (aftM Wd Ht a b) c).x), .int .i64 ((aftM Wd Ht (aftM Wd Ht a b) c).y), .int .i64 ((aftM Wd Ht (aftM Wd Ht a b) c).t), .bool ((aftM Wd Ht (aftM Wd Ht a b) c).f)]⟩, ⟨g20, 31, [.int .i64 ((aftM Wd Ht b c).x), .int .i64 ((aftM Wd Ht b c).y), .int .i64 ((aftM Wd Ht b c).t), .bool ((aftM Wd Ht b c).f)]⟩, ⟨g22, 31, [.int .i64 ((aftM Wd Ht (aftM Wd Ht a b) c).x), .int .i64 ((aftM Wd Ht (aftM Wd Ht a b) c).y), .int .i64 ((aftM Wd Ht (aftM Wd Ht a b) c).t), .bool ((aftM Wd Ht (aftM Wd Ht a b) c).f)]⟩, ⟨g24, 31, [.int .i64 ((invM Wd Ht a).x), .int .i64 ((invM Wd Ht a).y), .int .i64 ((invM Wd Ht a).t), .bool ((invM Wd Ht a).f)]⟩, ⟨g26, 31, [.int .i64 0, .int .i64 0, .int .i64 0, .bool false]⟩, ⟨g28, 31, [.int .i64 0, .int .i64 0, .int .i64 0, .bool false]⟩, ⟨g198, 3, ints (apL Wd Ht b.x b.y b.t b.f xs) ++ rest198⟩, ⟨g30, 27, [.int .i64 Wd, .int .i64 Ht, .slice (some ⟨g198, 0, none⟩) ((apL Wd Ht b.x b.y b.t b.f xs).length) k198]⟩, ⟨g204, 3, ints (apL Wd Ht a.x a.y a.t a.f (apL Wd Ht b.x b.y b.t b.f xs)) ++ rest204⟩, ⟨g31, 27, [.int .i64 Wd, .int .i64 Ht, .slice (some ⟨g204, 0, none⟩) ((apL Wd Ht a.x a.y a.t a.f (apL Wd Ht b.x b.y b.t b.f xs)).length) k204]⟩, ⟨g211, 3, ints (apL Wd Ht ((aftM Wd Ht a b).x) ((aftM Wd Ht a b).y) ((aftM Wd Ht a b).t) ((aftM Wd Ht a b).f) xs) ++ rest211⟩, ⟨g32, 27, [.int .i64 Wd, .int .i64 Ht, .slice (some ⟨g211, 0, none⟩) ((apL Wd Ht ((aftM Wd Ht a b).x) ((aftM Wd Ht a b).y) ((aftM Wd Ht a b).t) ((aftM Wd Ht a b).f) xs).length) k211]⟩]) := ⟨HE.out.to hb⟩
                              have HLS := HL0
                              have e8 : vs 8 = .bool true := hv 20 (by decide) rfl
                              simp only [putAll, List.foldl_cons, List.foldl_nil, Act.put, List.setIfInBounds_toArray, List.set_cons_succ, List.set_cons_zero, List.drop_succ_cons, List.drop_zero, e8]
                              generalize vs 213 = s213
                              generalize vs 214 = s214
                              generalize vs 215 = s215
                              generalize vs 216 = s216
                              generalize vs 217 = s217
                              generalize vs 218 = s218
                              generalize vs 219 = s219
                              generalize vs 220 = s220
                              generalize vs 221 = s221
                              generalize vs 222 = s222
                              generalize vs 223 = s223
                              generalize vs 224 = s224
                              generalize vs 225 = s225
                              generalize vs 226 = s226
                              generalize vs 227 = s227
                              generalize vs 228 = s228
                              generalize vs 229 = s229
                              generalize vs 230 = s230
                              generalize vs 231 = s231
                              generalize vs 232 = s232
                              clear hv hal hne hb HL0 HBW HLS e8
                              go_wp2_with fail
                              go_ret
                              exact ⟨_, rfl, HB.out, rfl⟩
end Go.Proofs.Ytddbmckbankmeaa
