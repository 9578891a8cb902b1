/- Part 22 of the texts behind this claim. -/
import Derived.Test.YtddbmckbankmeaaKo17
import Derived.Test.YtddbmckbankmeaaKo21
set_option linter.unusedVariables false
set_option linter.unusedSimpArgs false
namespace Go.Proofs.Ytddbmckbankmeaa
open Go.RowKit
section
variable {Q : Exit → Act → World → Prop} {o : Oper} {a : Act} {w w' : World} {d g j n k i lo : Nat} {x y : Operand} {t : TypeId} {W H : Int} {ts : List Sl} {rest ys_ : List Value} {s : Sl} {ys : List Int}
theorem op_idxU {b : Nat} (h1 : j < n) (ho : o.op = .indexAddr 80 x y) (hx : a.eval x = .slice (some ⟨g, b, none⟩) n k) (hy : a.eval y = .int .i64 (j : Int)) (w : World) : (execOp a.eval o).run Try.prog w = .ok (.value (.pointer (some ⟨g, b + j * 3, none⟩))) w := by
  have e : (⟨g, b, none⟩ : Addr).add (j * 3) = ⟨g, b + j * 3, none⟩ := by unfold Addr.add; split <;> simp_all
  generalize a.eval = ev at hx hy ⊢
  unfold execOp
  simp only [ho, hx, hy]
  simp [go_sem, h1, e]
theorem op_ldvU {A : Option Addr} {m c q : Nat} (ho : o.op = .load 24 x) (hd : o.dst = some d) (hx : a.eval x = .pointer (some ⟨g, q, none⟩))
    (h : w.cell? ⟨g, q, none⟩ = some (.int .i64 W) ∧ w.cell? ⟨g, q + 1, none⟩ = some (.int .i64 H) ∧ w.cell? ⟨g, q + 2, none⟩ = some (.slice A m c)) :
    o.wp Try.prog a w (Post a w d (isV (.agg #[.int .i64 W, .int .i64 H, .slice A m c])).p) Q := by
  obtain ⟨h0, h1, h2⟩ := h
  refine op_load (v := .agg #[.int .i64 W, .int .i64 H, .slice A m c]) ho hd hx ?_ rfl
  simp [go_sem, h0, h1, h2]
theorem op_lenU {A : Option Addr} (ho : o.op = .call { callee := .builtin .len, args := #[x], argTypes := #[80] }) (hd : o.dst = some d) (hx : a.eval x = .slice A n k) : o.wp Try.prog a w (Post a w d (isV (.int .i64 ((n : Nat) : Int))).p) Q := by
  refine op_run (v := .int .i64 (n : Int)) hd ?_ rfl
  generalize a.eval = ev at hx ⊢
  unfold execOp
  simp only [ho]
  simp [go_sem, hx]
theorem op_toU {A : Option Addr} (hi : i ≤ n) (hk : n ≤ k) (ho : o.op = .slice 80 x none (some y) none) (hx : a.eval x = .slice A n k) (hy : a.eval y = .int .i64 (i : Int)) (w : World) : (execOp a.eval o).run Try.prog w = .ok (.value (.slice A i k)) w := by
  generalize a.eval = ev at hx hy ⊢
  unfold execOp
  simp only [ho, Option.map_some, Option.map_none, hx, hy]
  have h1 : (i : Int) ≤ (k : Int) := by omega
  cases A <;> simp [go_sem, h1]
def OwnU (lo : Nat) (w : World) (v : Value) (W H : Int) (ts : List Sl) : Prop := w.ownsRow lo 24 3 v ts.length (ts.flatMap (encT W H))
theorem OwnU.to {v : Value} (h : OwnU lo w v W H ts) (hb : Below w.heap.size w w') : OwnU lo w' v W H ts := own_to h hb
theorem OwnU.lt {v : Value} (h : OwnU lo w v W H ts) : ∀ k, v.ownBlock = some k → lo ≤ k ∧ k < w.heap.size := World.ownsRow.lt h
theorem OwnU.blk {v : Value} (h : OwnU lo w v W H ts) : ∀ g, v.ownBlock = some g → ∃ t us, Blk w g t us ∧ t ≠ 3 := fun g e => by
  rcases h.2 with ⟨rfl, _⟩ | ⟨g', cap, cur, rfl, hlo, hg, _⟩
  · cases e
  injection e with e
  obtain rfl : g' = g := e
  exact ⟨_, cur.toList, hg, by decide⟩
end
section
variable {w w' : World} {lo g o : Nat} {W H : Int} {ts : List Sl} {t : TypeId} {us vs : List Value}
theorem OwnU.put {v : Value} (h : OwnU lo w v W H ts) (hlt : ∀ k, v.ownBlock = some k → k < g) : OwnU lo (putL w g o vs) v W H ts := own_put hlt h
end
theorem Try.info_rstamp : (Try.prog.info? 24).map (fun i => (i.zero, i.size, i.bytes)) = some (some (.agg #[.int .i64 0, .int .i64 0, .slice none 0 0]), 3, 40) := by kernel_rfl
set_option maxRecDepth 100000 in
set_option maxHeartbeats 1000000 in
theorem rKeeps_got (Wd Ht : Int) (A : Option Addr) (k : Nat) (ms : List Mv) (B : Option Addr) (c : Nat) (xs : List Int) (w : World) (hrm : RdM w A ms) (hln : ms.length ≤ 100000) (hri : RI w B xs) (hv : validB Wd Ht xs = true) (hal : ∀ i, i < ms.length → Al Wd Ht (nthM ms i)) :
    Calls Try.prog 49 #[.slice A ms.length k, .agg #[.int .i64 Wd, .int .i64 Ht, .slice B xs.length c]] w (Got w (isMs w.heap.size (keepL Wd Ht xs ms)).p) := by
  have HRM := Hd.mk hrm
  have HVL := Hd.mk (valid_len hv)
  have hsh := valid_short hv
  obtain ⟨bd, rfl⟩ := valid_some hri hv
  have HRI := Hd.mk hri
  have HPX : Hd (0 < xs.length) := ⟨by have h := valid_len hv; have h2 := sizeB_bounds (valid_size hv); have h3 := Int.mul_pos (show 0 < Wd by omega) (show 0 < Ht by omega); omega⟩
  have HALL := Hd.mk hal
  clear hrm hri hv hal
  go_enter Try.func49, Try.ntmps49
  go_upto_region 1 with fail
  obtain ⟨W0, hW0⟩ : ∃ W : World, W = w.alloc (.cells #[.int .i64 Wd, .int .i64 Ht, .slice (some bd) xs.length c] 24) := ⟨_, rfl⟩
  rw [← hW0]
  obtain ⟨he, hb⟩ := env_one hW0
  have HE := Hd.mk he
  have HB := Hd.mk hb
  clear he hb hW0
  refine wp_region_vd 0 [] [] [] 84 [.int .i64 0, .int .i64 0] [] (by rfl) alloc_Z ?_ ?_
  · intro qi qh qA aa wx hb hs hd
    match qi, qh, qA with
    | qi + 0, h, _ => omega
  intro vs X1 hb hv hal hne
  replace HB := Hd.mk (bel_then HB.out hb)
  replace HE := Hd.mk (HE.out.to hb)
  simp only [PA]
  clear hv hal hne hb
  go_upto_region 2 with fail
  refine wp_region_vd 3 [8, 9, 10] [0, 2] [] 84 [.int .i64 0, .int .i64 0] [isV (.slice A ms.length k), isV (.int .i64 (((ms.length : Nat) : Int))), isV (.int .i64 0)] (by rfl) alloc_Z ?_ ?_
  · intro qi qh qA aa wx hb hs hd
    match qi, qh, qA with
    | 0, _, _ => exact .inl ⟨rfl, op_mv rfl (hs 0 rfl)⟩
    | 1, _, _ => exact .inl ⟨rfl, op_lenvVN rfl rfl (hd 0 rfl)⟩
    | 2, _, _ => exact .inl ⟨rfl, op_mv rfl rfl⟩
    | qi + 3, h, _ => omega
  intro vs X2 hb hv hal hne
  replace HB := Hd.mk (bel_then HB.out hb)
  replace HE := Hd.mk (HE.out.to hb)
  have e8 : vs 8 = .slice A ms.length k := hv 0 (by decide) rfl
  have e9 : vs 9 = .int .i64 (((ms.length : Nat) : Int)) := hv 1 (by decide) rfl
  have e10 : vs 10 = .int .i64 0 := hv 2 (by decide) rfl
  simp only [PA, e8, e9, e10]
  clear hv hal hne hb e8 e9 e10
  have HO : Hd (OwnM (w.heap.size + 1) X2 (.slice none 0 0) []) := ⟨World.ownsRow_nil _ _ _ _⟩
  go_wp2_with fail
  go_loopw [5, 10] (fun s5 s10 wr => ∃ j : Nat, j ≤ ms.length ∧ s10 = .int .i64 j ∧ OwnM (w.heap.size + 1) wr s5 (keepL Wd Ht xs (ms.take j)) ∧ Env wr [⟨w.heap.size, 24, [.int .i64 Wd, .int .i64 Ht, .slice (some bd) xs.length c]⟩] ∧ Below w.heap.size w wr) (fun _ s10 _ => ms.length - (intOf s10).toNat)
  case atStart => exact ⟨0, Nat.zero_le _, rfl, HO.out, HE.out, HB.out⟩
  case round =>
    obtain ⟨j, hjl, rfl, ho, he, hb⟩ := hrel
    clear HB HE HO
    have HB := Hd.mk hb
    have HO := Hd.mk ho
    have HE : Hd (Env wr [⟨w.heap.size, 24, [.int .i64 Wd, .int .i64 Ht, .slice (some bd) xs.length c]⟩]) := ⟨he⟩
    clear ho he hb
    by_cases hj : j < ms.length
    · obtain ⟨m, hm⟩ : ∃ m, ms[j]? = some m := ⟨_, List.getElem?_eq_getElem hj⟩
      obtain ⟨ad, rfl⟩ := HRM.out.some_ hm
      have HMJ := Hd.mk hm
      have HAL : Hd (Al Wd Ht m) := ⟨by have h := HALL.out j hj; rwa [nthM_at hm] at h⟩
      clear hm
      go_upto_region 4 with fail
      refine wp_region_vd 3 [12, 13, 7] [] [2] 26 [.int .i64 0, .int .i64 0, .int .i64 0, .bool false] [isV (.pointer (some (ad.add (j * 4)))), isV (.agg #[.int .i64 m.x, .int .i64 m.y, .int .i64 m.t, .bool m.f]), SP.any] (by rfl) alloc_N ?_ ?_
      · intro qi qh qA aa wx hb hs hd
        match qi, qh, qA with
        | 0, _, _ => exact .inl ⟨rfl, op_run rfl (op_idxVN hj rfl (hs 8 rfl) (hs 10 rfl) _) rfl⟩
        | 1, _, _ => exact .inl ⟨rfl, op_ldvVN rfl rfl (hd 0 rfl) ((HRM.out.to (bel_then HB.out hb)).at_ HMJ.out)⟩
        | 2, _, h => cases h
        | qi + 3, h, _ => omega
      intro vs X1 hb hv hal hne
      have HL0 := Hd.mk (HE.out.lt)
      have HBW := HB
      replace HB := Hd.mk (bel_then HB.out hb)
      replace HE := Hd.mk (HE.out.to hb)
      have HOL := Hd.mk HO.out.lt
      replace HO := Hd.mk (HO.out.to hb)
      have e13 : vs 13 = .agg #[.int .i64 m.x, .int .i64 m.y, .int .i64 m.t, .bool m.f] := hv 1 (by decide) rfl
      obtain ⟨g7, e7, l7, b7⟩ : ∃ g, vs 7 = .pointer (some ⟨g, 0, none⟩) ∧ _ := hal 2 rfl
      replace HE : Hd (Env X1 [⟨w.heap.size, 24, [.int .i64 Wd, .int .i64 Ht, .slice (some bd) xs.length c]⟩, ⟨g7, 26, [.int .i64 0, .int .i64 0, .int .i64 0, .bool false]⟩]) := ⟨Env.addne (e := ⟨g7, 26, [.int .i64 0, .int .i64 0, .int .i64 0, .bool false]⟩) HE.out b7 (fun e' he => Nat.ne_of_lt (Nat.lt_of_lt_of_le (HL0.out e' he) l7))⟩
      have HOG7 : Hd (∀ k, u5.ownBlock = some k → k < g7) := ⟨fun k hk => Nat.lt_of_lt_of_le (HOL.out k hk).2 l7⟩
      have G7 : Hd (w.heap.size ≤ g7) := ⟨Nat.le_trans HBW.out.size l7⟩
      simp only [PA, e13, e7]
      clear hv hal hne hb HL0 HBW e13 e7 l7 b7 HOL
      refine wpList_st rfl rfl rfl rfl rfl (sto_N (HE.out.get 1 rfl)) ?_
      have HE' : Env (putL X1 g7 0 [.int .i64 m.x, .int .i64 m.y, .int .i64 m.t, .bool m.f]) [⟨w.heap.size, 24, [.int .i64 Wd, .int .i64 Ht, .slice (some bd) xs.length c]⟩, ⟨g7, 26, [.int .i64 m.x, .int .i64 m.y, .int .i64 m.t, .bool m.f]⟩] := HE.out.putF 1 rfl rfl
      have HB' := putL_below (show w.heap.size ≤ g7 from G7.out) [.int .i64 m.x, .int .i64 m.y, .int .i64 m.t, .bool m.f] _ 0 HB.out
      replace HO := Hd.mk (HO.out.put (vs := [.int .i64 m.x, .int .i64 m.y, .int .i64 m.t, .bool m.f]) (o := 0) HOG7.out)
      generalize putL X1 g7 0 [.int .i64 m.x, .int .i64 m.y, .int .i64 m.t, .bool m.f] = X2 at *
      replace HE := Hd.mk HE'
      replace HB := Hd.mk HB'
      clear HE' HB'
      by_cases hk : apM Wd Ht m xs = xs
      · have HK := Hd.mk hk
        clear hk
        go_upto_region 5 with fail
        refine wp_region_vs 6 [14, 15, 16, 17, 18, 19] [5] [] 84 [.int .i64 0, .int .i64 0] [isV (.agg #[.int .i64 m.x, .int .i64 m.y, .int .i64 m.t, .bool m.f]), isV (.agg #[.int .i64 Wd, .int .i64 Ht, .slice (some bd) xs.length c]), isFS X2.heap.size Wd Ht (apM Wd Ht m xs), isV (.agg #[.int .i64 Wd, .int .i64 Ht, .slice (some bd) xs.length c]), isV (.int .i64 (cmpL (apM Wd Ht m xs) xs)), isV (.bool true)] (by kernel_rfl) (by kernel_rfl) (by kernel_rfl) (by rfl) alloc_Z (fun d v c a w h => by cases d <;> exact h) ?_ ?_
        · intro qi qh qA aa wx hb hs hd
          match qi, qh, qA with
          | 0, _, _ => exact op_ldN rfl rfl (hs 7 rfl) ((HE.out.to hb).get 1 rfl)
          | 1, _, _ => exact op_ldU rfl rfl (hs 3 rfl) ((HE.out.to hb).get 0 rfl)
          | 2, _, _ => exact op_call2 rfl rfl Try.call22 (by rw [(show aa.eval (.tmp 14) = .agg #[.int .i64 m.x, .int .i64 m.y, .int .i64 m.t, .bool m.f] from (hd 0 rfl)), (show aa.eval (.tmp 15) = .agg #[.int .i64 Wd, .int .i64 Ht, .slice (some bd) xs.length c] from (hd 1 rfl))]; exact got_fs hb.size (rapply_got Wd Ht m.x m.y m.t m.f bd c xs _ (HRI.out.to (bel_then HB.out hb)) HAL.out.okm HVL.out))
          | 3, _, _ => exact op_ldU rfl rfl (hs 3 rfl) ((HE.out.to hb).get 0 rfl)
          | 4, _, _ => exact op_call2 rfl rfl Try.call80 (by obtain ⟨g0, k0, rest0, e0, _, _, _, b0⟩ := hd 2 rfl; rw [show aa.eval (.tmp 16) = _ from e0, show aa.eval (.tmp 17) = _ from hd 3 rfl]; exact Order_got Wd Ht ⟨some ⟨g0, 0, none⟩, k0, apM Wd Ht m xs⟩ ⟨some bd, c, xs⟩ _ b0.ri (HRI.out.to (bel_then HB.out hb)) (by rw [apM_length]) HPX.out (by rw [apM_length]; omega) (by show xs.length ≤ 1000; omega))
          | 5, _, _ => exact pure_b (bool_eq (by rw [HK.out, cmpL_refl]; decide)) (⟨_, op_eqlI rfl (hd 4 rfl) rfl, rfl⟩)
          | qi + 6, h, _ => omega
        intro vs X3 hb hv hal hne
        replace HB := Hd.mk (bel_then HB.out hb)
        replace HE := Hd.mk (HE.out.to hb)
        have HOL := Hd.mk HO.out.lt
        replace HO := Hd.mk (HO.out.to hb)
        have e19 : vs 19 = .bool true := hv 5 (by decide) rfl
        simp only [PA, e19]
        clear hv hal hne hb e19 HOL
        have k26a := HE.out.cell 1 0 rfl rfl
        have k26b := HE.out.cell 1 1 rfl rfl
        have k26c := HE.out.cell 1 2 rfl rfl
        have k26d := HE.out.cell 1 3 rfl rfl
        have HLN : (keepL Wd Ht xs (ms.take j)).length ≤ 100000 := Nat.le_trans (List.length_filter_le _ _) (by rw [List.length_take]; omega)
        have HXS := Nat.le_trans HB.out.size (Nat.le_refl _)
        obtain ⟨i0, hi0, hz0, hz1, hz2⟩ := info_parts Try.info_rmove
        have HTK := Hd.mk (keep_yes HMJ.out HK.out)
        generalize hms : keepL Wd Ht xs (ms.take j) = zs at HO HLN HTK
        clear hms
        have hg0 := (HE.out.get 0 rfl).lt
        go_wp2_with (first | (at_builtin; refine wpList_append_own _ rfl (.tmp 20) (.tmp 22) 51 rfl (w.heap.size + 1) 26 i0 (.agg #[.int .i64 0, .int .i64 0, .int .i64 0, .bool false]) 4 32 Try.underlying51 hi0 hz0 hz1 hz2 rfl (by decide) u5 zs.length (mcells zs) rfl (HO.out.to (below_alloc (Below.refl _ _) _)) ⟨X3.heap.size, 0, none⟩ 1 1 [.int .i64 m.x, .int .i64 m.y, .int .i64 m.t, .bool m.f] rfl rfl ?c1 ?c2 ?c3 ?c4 ?c5 ?_) | fail)
        case c1 =>
          intro z u hz
          rcases z with _ | _ | _ | _ | z <;> simp at hz <;> subst hz <;> simp [Addr.add]
        case c2 =>
          intro u hu
          simp at hu
          rcases hu with rfl | rfl | rfl | rfl <;> rfl
        case c3 => unfold maxLen; omega
        case c4 => omega
        case c5 => simp; omega
        intro v1 w1 hown1 hg1 _
        have HB1 := (below_alloc HB.out _).grown hg1 (by simp; omega) (fun z hz => Nat.le_trans (Nat.le_succ _) (HO.out.lt z hz).1)
        have HE1 := (Env.grownBy_ (HE.out.alloc_ _) hg1 (fun e he hz => by
          have h1 := HO.out.lt e.g hz.symm
          rcases List.mem_cons.1 he with rfl | he
          · exact absurd h1.1 (Nat.not_succ_le_self _)
          rw [List.mem_singleton.1 he] at hz
          exact absurd (HOG7.out _ hz.symm) (by simp)))
        have HO1 : OwnM (w.heap.size + 1) w1 v1 (keepL Wd Ht xs (ms.take (j + 1))) := by
          rw [HTK.out]
          unfold OwnM
          rw [mcells_add, List.length_append]
          exact hown1
        replace HB := Hd.mk HB1
        replace HO := Hd.mk HO1
        replace HE := Hd.mk HE1
        clear HB1 HO1 HE1 hown1 hg1
        go_wp2_with fail
        go_roundw
        case rel => exact ⟨j + 1, by omega, by go_num, HO.out, Env.front (L := [⟨w.heap.size, 24, [.int .i64 Wd, .int .i64 Ht, .slice (some bd) xs.length c]⟩]) HE.out, HB.out⟩
        case measure => simp [intOf]; omega
      have HK := Hd.mk hk
      clear hk
      go_upto_region 5 with fail
      refine wp_region_vs 6 [14, 15, 16, 17, 18, 19] [5] [] 84 [.int .i64 0, .int .i64 0] [isV (.agg #[.int .i64 m.x, .int .i64 m.y, .int .i64 m.t, .bool m.f]), isV (.agg #[.int .i64 Wd, .int .i64 Ht, .slice (some bd) xs.length c]), isFS X2.heap.size Wd Ht (apM Wd Ht m xs), isV (.agg #[.int .i64 Wd, .int .i64 Ht, .slice (some bd) xs.length c]), isV (.int .i64 (cmpL (apM Wd Ht m xs) xs)), isV (.bool false)] (by kernel_rfl) (by kernel_rfl) (by kernel_rfl) (by rfl) alloc_Z (fun d v c a w h => by cases d <;> exact h) ?_ ?_
      · intro qi qh qA aa wx hb hs hd
        match qi, qh, qA with
        | 0, _, _ => exact op_ldN rfl rfl (hs 7 rfl) ((HE.out.to hb).get 1 rfl)
        | 1, _, _ => exact op_ldU rfl rfl (hs 3 rfl) ((HE.out.to hb).get 0 rfl)
        | 2, _, _ => exact op_call2 rfl rfl Try.call22 (by rw [(show aa.eval (.tmp 14) = .agg #[.int .i64 m.x, .int .i64 m.y, .int .i64 m.t, .bool m.f] from (hd 0 rfl)), (show aa.eval (.tmp 15) = .agg #[.int .i64 Wd, .int .i64 Ht, .slice (some bd) xs.length c] from (hd 1 rfl))]; exact got_fs hb.size (rapply_got Wd Ht m.x m.y m.t m.f bd c xs _ (HRI.out.to (bel_then HB.out hb)) HAL.out.okm HVL.out))
        | 3, _, _ => exact op_ldU rfl rfl (hs 3 rfl) ((HE.out.to hb).get 0 rfl)
        | 4, _, _ => exact op_call2 rfl rfl Try.call80 (by obtain ⟨g0, k0, rest0, e0, _, _, _, b0⟩ := hd 2 rfl; rw [show aa.eval (.tmp 16) = _ from e0, show aa.eval (.tmp 17) = _ from hd 3 rfl]; exact Order_got Wd Ht ⟨some ⟨g0, 0, none⟩, k0, apM Wd Ht m xs⟩ ⟨some bd, c, xs⟩ _ b0.ri (HRI.out.to (bel_then HB.out hb)) (by rw [apM_length]) HPX.out (by rw [apM_length]; omega) (by show xs.length ≤ 1000; omega))
        | 5, _, _ => exact pure_b (bool_eq (decide_eq_false (fun e => HK.out (cmpL_zero e)))) (⟨_, op_eqlI rfl (hd 4 rfl) rfl, rfl⟩)
        | qi + 6, h, _ => omega
      intro vs X3 hb hv hal hne
      replace HB := Hd.mk (bel_then HB.out hb)
      replace HE := Hd.mk (HE.out.to hb)
      have HOL := Hd.mk HO.out.lt
      replace HO := Hd.mk (HO.out.to hb)
      have e19 : vs 19 = .bool false := hv 5 (by decide) rfl
      simp only [PA, e19]
      clear hv hal hne hb e19 HOL
      go_wp2_with fail
      go_roundw
      case rel => exact ⟨j + 1, by omega, by go_num, by rw [keep_no HMJ.out HK.out]; exact HO.out, Env.front (L := [⟨w.heap.size, 24, [.int .i64 Wd, .int .i64 Ht, .slice (some bd) xs.length c]⟩]) HE.out, HB.out⟩
      case measure => simp [intOf]; omega
    have e1 : j = ms.length := by omega
    have HO1 : OwnM w.heap.size wr u5 (keepL Wd Ht xs ms) := by
      have h := HO.out
      rw [e1, List.take_length] at h
      exact OwnM.lower (Nat.le_succ _) h
    go_wp2_with fail
    go_ret
    exact ⟨_, rfl, HB.out, HO1⟩
end Go.Proofs.Ytddbmckbankmeaa
set_option linter.unusedVariables false
set_option linter.unusedSimpArgs false
namespace Go.Proofs.Ytddbmckbankmeaa
open Go.RowKit
section
variable {P : Program} {ops : Array Oper} {Q : Exit → Act → World → Prop} {md : Region.Mode}
theorem wp_region_varq {id : Nat} (n1 : Nat) {l : List Oper} {a0 : Act} {w0 : World} (ds E AL M : List Nat) (KL : List (Nat × Nat)) (T : TypeId) (z : List Value) (V : Nat → Value → World → Prop) (C : Nat → World → Prop)
    (hm : P.follows .mixedOrders = true) (hns : Region.noSelect l.toArray = true) (hB : phaseB l.toArray n1 E = true) (hF : freeB l.toArray E = true) (hD : VarB l n1 ds E AL T a0.tmps.size = true)
    (hCt : ∀ i ∈ E, ∀ j ∈ E, j ∈ edgesOf l.toArray i → ∀ w, C j w) (hC0 : ∀ i ∈ E, ∀ w, Below w0.heap.size w0 w → C i w)
    (hz : ∀ w : World, (Instr.alloc T true (.tuple #[])).run P w = .ok (.pointer (some ⟨w.heap.size, 0, none⟩)) (w.alloc (.cells z.toArray T)))
    (hKA : ∀ j m, (j, m) ∈ KL → AL.contains j = false) (hKE : ∀ j m, (j, m) ∈ KL → ∀ i, i < n1 → ∀ o, l[i]? = some o → ∀ e ∈ o.after.toList, Region.binds .any e = true → e.on = j → i = m) (hME : ∀ i, M.contains i = true → AL.contains i = false)
    (hQ : ∀ d v c a w, Q (.panic c) (a.put d v) w → Q (.panic c) a w)
    (hV : ∀ i v w w', V i v w → Below w.heap.size w w' → V i v w')
    (hop : ∀ i, i < n1 → AL.contains i = false → ∀ a w, Below w0.heap.size w0 w → (∀ t, ds.contains t = false → a.eval (.tmp t) = a0.eval (.tmp t)) → Deps l ds AL V i a w →
      match l[i]? with | none => True | some o => if E.contains i then ∃ v, (∀ w, C i w → (execOp a.eval o).run P w = .ok (.value v) w) ∧ V i v w else if M.contains i then o.wp P a w (fun a' w' => ∃ v, a' = a.put (some (ds.getD i 0)) v ∧ Below w0.heap.size w0 w' ∧ V i v w' ∧ ∀ j, j < n1 → j ≠ i → (j, i) ∉ KL → (∀ o, l[j]? = some o → ∀ e ∈ o.after.toList, Region.binds .any e = true → e.on ≠ i) → (∀ m, (j, m) ∈ KL → ∀ o, l[i]? = some o → ∀ e ∈ o.after.toList, Region.binds .any e = true → e.on ≠ m) → ∀ u, (fun i v w => if AL.contains i then ∃ g, v = .pointer (some ⟨g, 0, none⟩) ∧ w0.heap.size ≤ g ∧ Blk w g T z else V i v w : Nat → Value → World → Prop) j u w → (fun i v w => if AL.contains i then ∃ g, v = .pointer (some ⟨g, 0, none⟩) ∧ w0.heap.size ≤ g ∧ Blk w g T z else V i v w : Nat → Value → World → Prop) j u w') Q else o.wp P a w (Post a w (ds.getD i 0) (V i)) Q)
    (hend : ∀ (vs : Nat → Value) (w : World), Below w0.heap.size w0 w → (∀ i, i < n1 → AL.contains i = false → (∀ m, (i, m) ∉ KL) → V i (vs (ds.getD i 0)) w) →
      (∀ i, AL.contains i = true → ∃ g, vs (ds.getD i 0) = .pointer (some ⟨g, 0, none⟩) ∧ w0.heap.size ≤ g ∧ Blk w g T z) → (∀ i j, AL.contains i = true → AL.contains j = true → i ≠ j → vs (ds.getD i 0) ≠ vs (ds.getD j 0)) → wpListS P l.toArray Q E C n1 (l.drop n1) (putAll a0 ds vs) w) :
    (Code.region id l.toArray true).wp P Q a0 w0 := by
  unfold VarB at hD
  simp only [Bool.and_eq_true, decide_eq_true_eq, List.all_eq_true, List.mem_range] at hD
  obtain ⟨⟨⟨⟨⟨⟨hdl, hnl⟩, hdt⟩, hnd⟩, hEE⟩, hAA⟩, hops⟩ := hD
  have hop1 : ∀ i, i < n1 → ∃ o, l[i]? = some o ∧ o.dst = some (ds.getD i 0) ∧ o.guard = none ∧ (AL.contains i = true → o.op = .alloc T) := by
    intro i hi
    have h := hops i hi
    cases ho : l[i]? with
    | none => rw [ho] at h; cases h
    | some o =>
      rw [ho] at h
      simp only [Bool.and_eq_true, decide_eq_true_eq, Bool.or_eq_true, Bool.not_eq_true', Option.isNone_iff_eq_none] at h
      refine ⟨o, rfl, h.1.1, h.1.2, fun hA => ?_⟩
      rcases h.2 with h2 | h2
      · rw [hA] at h2; cases h2
      revert h2
      cases o.op <;> simp
  have hdi : ∀ i, i < n1 → ds.getD i 0 < a0.tmps.size := by
    intro i hi
    have : ds.getD i 0 ∈ ds := by
      rw [List.getD_eq_getElem?_getD, List.getElem?_eq_getElem (by omega)]
      exact List.getElem_mem _
    exact hdt _ this
  let F : Nat → Value → World → Prop := fun i v w => if AL.contains i then ∃ g, v = .pointer (some ⟨g, 0, none⟩) ∧ w0.heap.size ≤ g ∧ Blk w g T z else V i v w
  have hFs : ∀ i v w w', F i v w → Below w.heap.size w w' → F i v w' := by
    intro i v w w' h hb
    show if _ then _ else _
    have h' : if _ then _ else _ := h
    split at h'
    · next hA =>
      rw [if_pos hA]
      obtain ⟨g, h1, h2, h3⟩ := h'
      exact ⟨g, h1, h2, h3.to hb⟩
    next hA => rw [if_neg hA]; exact hV _ _ _ _ h' hb
  let I : Array Bool → Act → World → Prop := fun L a w => Below w0.heap.size w0 w ∧ L.size = l.length ∧ a.defers = a0.defers ∧ a.tmps.size = a0.tmps.size ∧ (∀ t, t ∉ ds → a0.tmps[t]? = a.tmps[t]?) ∧
    (∀ i, i < n1 → L.getD i false = true → (∀ m, (i, m) ∈ KL → L.getD m false = false) → F i (a.eval (.tmp (ds.getD i 0))) w) ∧
    (∀ i j, AL.contains i = true → AL.contains j = true → i ≠ j → L.getD i false = true → L.getD j false = true → a.eval (.tmp (ds.getD i 0)) ≠ a.eval (.tmp (ds.getD j 0))) ∧
    (∀ j o, j < n1 → L.getD j false = true → l[j]? = some o → ∀ e ∈ o.after.toList, Region.binds .any e = true → L.getD e.on false = true)
  have hAlt : ∀ i, AL.contains i = true → i < n1 := fun i h => hAA i (by simpa using h)
  have hrf : ∀ L : Array Bool, L.size = l.length → ∀ i, i ∈ Region.ready .any l.toArray L → L.getD i false = false := fun L hs i h => by
    have := ready_get (by simpa using hs) h
    simp only [Array.getElem?_toList] at this
    simp [Array.getD_eq_getD_getElem?, this]
  have key : ∀ L a w i v w', I L a w → i < n1 → Below w0.heap.size w0 w' → (∀ j, j < n1 → j ≠ i → (j, i) ∉ KL → (∀ o, l[j]? = some o → ∀ e ∈ o.after.toList, Region.binds .any e = true → e.on ≠ i) → (∀ m, (j, m) ∈ KL → ∀ o, l[i]? = some o → ∀ e ∈ o.after.toList, Region.binds .any e = true → e.on ≠ m) → ∀ u, F j u w → F j u w') → i ∈ Region.ready .any l.toArray L → F i v w' → (AL.contains i = true → ∀ j, AL.contains j = true → i ≠ j → L.getD j false = true → v ≠ a.eval (.tmp (ds.getD j 0))) → I (L.setIfInBounds i true) (a.put (some (ds.getD i 0)) v) w' := by
    intro L a w i v w' ⟨hb, hsz, hdf, hts, hot, hf, hne, hcl⟩ hi hb0 hpres hrdy hv hd
    refine ⟨hb0, by simp [hsz], hdf, by simp [Act.put, hts], fun t ht => ?_, fun j hj hL hkl => ?_, fun j k hj hk hjk hLj hLk => ?_, fun j o hj hLj ho e he hbd => ?_⟩
    · have : ds.getD i 0 ≠ t := fun e => ht (by rw [← e, List.getD_eq_getElem?_getD, List.getElem?_eq_getElem (by omega)]; exact List.getElem_mem _)
      show _ = (a.tmps.setIfInBounds _ _)[t]?
      rw [Array.getElem?_setIfInBounds_ne this]
      exact hot t ht
    · by_cases hij : j = i
      · subst hij
        rw [eval_put_same (by rw [hts]; exact hdi _ hi)]
        exact hv
      rw [eval_put_other (nodup_ne hnd (by omega) (by omega) (Ne.symm hij))]
      rw [set_getD _ (by omega), if_neg hij] at hL
      refine hpres j hj hij (fun hk => ?_) (fun o ho e he hbd hon => ?_) (fun m hm o ho e he hbd hon => ?_) _ (hf j hj hL (fun m hm => ?_))
      · have h9 := hkl i hk
        rw [set_getD _ (by omega), if_pos rfl] at h9
        cases h9
      · have h9 := hcl j o hj hL ho e he hbd
        rw [hon, hrf L hsz i hrdy] at h9
        cases h9
      · obtain ⟨_, o', ho', hall⟩ := mem_ready.1 hrdy
        have : o' = o := by simpa [ho] using ho'.symm
        subst this
        have h8 := hall e (by simpa using he) hbd
        have h9 := hkl m hm
        rw [hon] at h8
        rw [set_getD _ (by omega)] at h9
        split at h9
        · cases h9
        rw [h8] at h9; cases h9
      have h9 := hkl m hm
      rw [set_getD _ (by omega)] at h9
      split at h9
      · cases h9
      exact h9
    · have hjn := hAlt j hj
      have hkn := hAlt k hk
      by_cases hji : j = i
      · subst hji
        rw [eval_put_same (by rw [hts]; exact hdi _ hi), eval_put_other (nodup_ne hnd (by omega) (by omega) hjk)]
        rw [set_getD _ (by omega), if_neg (Ne.symm hjk)] at hLk
        exact hd hj k hk hjk hLk
      by_cases hki : k = i
      · subst hki
        rw [eval_put_same (by rw [hts]; exact hdi _ hi), eval_put_other (nodup_ne hnd (by omega) (by omega) (Ne.symm hji))]
        rw [set_getD _ (by omega), if_neg hji] at hLj
        exact Ne.symm (hd hk j hj (Ne.symm hjk) hLj)
      rw [eval_put_other (nodup_ne hnd (by omega) (by omega) (Ne.symm hji)), eval_put_other (nodup_ne hnd (by omega) (by omega) (Ne.symm hki))]
      rw [set_getD _ (by omega), if_neg hji] at hLj
      rw [set_getD _ (by omega), if_neg hki] at hLk
      exact hne j k hj hk hjk hLj hLk
    obtain ⟨_, o', ho', hall⟩ := mem_ready.1 hrdy
    rw [set_getD _ (by omega)]
    by_cases hei : e.on = i
    · rw [if_pos hei]
    rw [if_neg hei]
    by_cases hji : j = i
    · subst hji
      have : o' = o := by simpa [ho] using ho'.symm
      subst this
      exact hall e (by simpa using he) hbd
    rw [set_getD _ (by omega), if_neg hji] at hLj
    exact hcl j o hj hLj ho e he hbd
  have hpre : ∀ L a w i o, I L a w → i < n1 → i ∈ Region.ready .any l.toArray L → l[i]? = some o → (∀ t, ds.contains t = false → a.eval (.tmp t) = a0.eval (.tmp t)) ∧ Deps l ds AL V i a w := by
    intro L a w i o ⟨hb, hsz, hdf, hts, hot, hf, hne, hcl⟩ hi hr ho
    obtain ⟨_, o', ho', hall⟩ := mem_ready.1 hr
    have : o' = o := by simpa [ho] using ho'.symm
    subst this
    refine ⟨fun t ht => ?_, fun j hj => ?_⟩
    · have := hot t (by simpa using ht)
      show a.tmps.getD t undef = a0.tmps.getD t undef
      simp only [Array.getD_eq_getD_getElem?, this]
    rw [ho] at hj
    simp only [Option.map_some, Option.getD_some, Bool.and_eq_true, Bool.not_eq_true', List.any_eq_true, decide_eq_true_eq] at hj
    obtain ⟨⟨e, he, hbd, heq⟩, hA⟩ := hj
    have hj1 : j < i := by rw [← heq]; exact (phaseB_back hB ho').1 e (by simpa using he) hbd
    have h1 := hf j (by omega) (by rw [← heq]; exact hall e (by simpa using he) hbd) (fun m hm => by rw [← hKE j m hm i hi o' ho e he hbd heq]; exact hrf L hsz i hr)
    have h2 : if AL.contains j then _ else _ := h1
    rw [if_neg (by rw [hA]; simp)] at h2
    exact h2
  refine wp_region_phase (n1 := n1) E C hm hns hB hF (fun i hi => by have := hEE i hi; simp at this; exact this.1) hCt hnl hQ I ?_ (fun L a w h i hi => hC0 i hi w h.1) ?_ ?_ ?_
  · refine ⟨below_drew (Below.refl _ _), by simp, rfl, rfl, fun _ _ => rfl, fun i hi hL _ => ?_, fun i j _ _ _ hL _ => ?_, fun j o _ hL => ?_⟩
    · rw [rep_getD] at hL; cases hL
    · rw [rep_getD] at hL; cases hL
    rw [rep_getD] at hL; cases hL
  · intro L a w i o hI hi hr ho
    have hEi := hEE i hi
    simp only [Bool.and_eq_true, decide_eq_true_eq, Bool.not_eq_true'] at hEi
    obtain ⟨h1, h2⟩ := hpre L a w i o hI hEi.1 hr ho
    have h3 := hop i hEi.1 hEi.2 a w hI.1 h1 h2
    rw [ho] at h3
    simp only at h3
    rw [if_pos (by simpa using hi)] at h3
    obtain ⟨v, hy, hv⟩ := h3
    obtain ⟨o', ho', hdst, hg, _⟩ := hop1 i hEi.1
    have : o' = o := by rw [ho] at ho'; exact (Option.some.inj ho').symm
    subst this
    refine ⟨v, .inl ⟨by simp [Region.wanted, hg], hy⟩, ?_⟩
    rw [hdst]
    exact key L a w i v w hI hEi.1 hI.1 (fun _ _ _ _ _ _ _ hu => hu) hr (by show if _ then _ else _; rw [if_neg (by rw [hEi.2]; simp)]; exact hv) (fun h => by rw [hEi.2] at h; cases h)
  · intro L a w i hI hi hE hr
    obtain ⟨o, ho, hdst, hg, hal⟩ := hop1 i hi
    obtain ⟨h1, h2⟩ := hpre L a w i o hI hi hr ho
    unfold wpOp
    have ho2 : l.toArray[i]? = some o := by simpa using ho
    rw [ho2]
    simp only
    rw [if_pos (by simp [Region.wanted, hg])]
    refine .inl ?_
    by_cases hA : AL.contains i = true
    · unfold Oper.wp execOp
      simp only [hal hA, Sem.run_bind, hz, Result.andThen_ok, Sem.run_pure, Oper.upon, hdst]
      refine key L a w i _ _ hI hi (below_then hI.1 hI.1.size (below_alloc (Below.refl _ _) _)) (fun j _ _ _ _ _ u hu => hFs j u _ _ hu (below_alloc (Below.refl _ _) _)) hr ?_ ?_
      · show if _ then _ else _
        rw [if_pos hA]
        exact ⟨_, rfl, hI.1.size, heap_alloc_new _ _⟩
      intro _ j hj hij hL
      have h3 : if AL.contains j then _ else _ := hI.2.2.2.2.2.1 j (hAlt j hj) hL (fun m hm => by rw [hKA j m hm] at hj; cases hj)
      rw [if_pos hj] at h3
      obtain ⟨g, hg1, _, hg2⟩ := h3
      rw [hg1]
      intro he
      have := hg2.lt
      injection he with he
      injection he with he
      injection he with he
      omega
    have hA' : AL.contains i = false := by simpa using hA
    have h3 := hop i hi hA' a w hI.1 h1 h2
    rw [ho] at h3
    simp only at h3
    rw [if_neg (by simpa using hE)] at h3
    by_cases hM : M.contains i = true
    · rw [if_pos hM] at h3
      refine Oper.wp_mono (fun a' w' h => ?_) h3
      obtain ⟨v, rfl, hb0, hv, hpres⟩ := h
      exact key L a w i v w' hI hi hb0 (fun j a b c d e u => hpres j a b c d (fun m hm o1 ho1 => e m hm o1 (ho.trans ho1)) u) hr (by show if _ then _ else _; rw [if_neg hA]; exact hv) (fun h => absurd h hA)
    rw [if_neg hM] at h3
    refine Oper.wp_mono (fun a' w' h => ?_) h3
    obtain ⟨v, rfl, hb', hv⟩ := h
    exact key L a w i v w' hI hi (below_then hI.1 hI.1.size hb') (fun j _ _ _ _ _ u hu => hFs j u _ _ hu hb') hr (by show if _ then _ else _; rw [if_neg hA]; exact hv) (fun h => absurd h hA)
  intro L a w hI hall
  obtain ⟨hb, hsz, hdf, hts, hot, hf, hne, hcl⟩ := hI
  have he := putAll_eq (a := a) ds a0 hdf.symm hts.symm (fun d hd => by rw [hts]; exact hdt d hd) hot
  rw [← he]
  refine hend (fun t => a.eval (.tmp t)) w hb (fun i hi hA hK => ?_) (fun i hA => ?_) (fun i j hi hj hij => hne i j hi hj hij (hall i (hAlt i hi)) (hall j (hAlt j hj)))
  · have h3 : if AL.contains i then _ else _ := hf i hi (hall i hi) (fun m hm => absurd hm (hK m))
    rw [if_neg (by rw [hA]; simp)] at h3
    exact h3
  have h3 : if AL.contains i then _ else _ := hf i (hAlt i hA) (hall i (hAlt i hA)) (fun m hm => by rw [hKA i m hm] at hA; cases hA)
  rw [if_pos hA] at h3
  exact h3
end
section
variable {Q : Exit → Act → World → Prop} {id : Nat} {l : List Oper} {a0 : Act} {w0 : World}
theorem wp_region_vq (n1 : Nat) (ds E AL M : List Nat) (KL : List (Nat × Nat)) (T : TypeId) (z : List Value) (Vs : List SP)
    (hns : Region.noSelect l.toArray = true) (hB : phaseB l.toArray n1 E = true) (hF : freeB l.toArray E = true) (hD : VarB l n1 ds E AL T a0.tmps.size = true)
    (hz : ∀ w : World, (Instr.alloc T true (.tuple #[])).run Try.prog w = .ok (.pointer (some ⟨w.heap.size, 0, none⟩)) (w.alloc (.cells z.toArray T)))
    (hKA : ∀ j m, (j, m) ∈ KL → AL.contains j = false) (hKE : ∀ j m, (j, m) ∈ KL → ∀ i, i < n1 → ∀ o, l[i]? = some o → ∀ e ∈ o.after.toList, Region.binds .any e = true → e.on = j → i = m) (hME : ∀ i, M.contains i = true → AL.contains i = false)
    (hQ : ∀ d v c a w, Q (.panic c) (a.put d v) w → Q (.panic c) a w)
    (hop : ∀ i, i < n1 → AL.contains i = false → ∀ a w, Below w0.heap.size w0 w → (∀ t, ds.contains t = false → a.eval (.tmp t) = a0.eval (.tmp t)) → Deps l ds AL (vp Vs) i a w →
      match l[i]? with | none => True | some o => if E.contains i then ∃ v, (∀ w, (execOp a.eval o).run Try.prog w = .ok (.value v) w) ∧ vp Vs i v w else if M.contains i then o.wp Try.prog a w (fun a' w' => ∃ v, a' = a.put (some (ds.getD i 0)) v ∧ Below w0.heap.size w0 w' ∧ vp Vs i v w' ∧ ∀ j, j < n1 → j ≠ i → (j, i) ∉ KL → (∀ o, l[j]? = some o → ∀ e ∈ o.after.toList, Region.binds .any e = true → e.on ≠ i) → (∀ m, (j, m) ∈ KL → ∀ o, l[i]? = some o → ∀ e ∈ o.after.toList, Region.binds .any e = true → e.on ≠ m) → ∀ u, FV AL T z w0.heap.size Vs j u w → FV AL T z w0.heap.size Vs j u w') Q else o.wp Try.prog a w (Post a w (ds.getD i 0) (vp Vs i)) Q)
    (hend : ∀ (vs : Nat → Value) (w : World), Below w0.heap.size w0 w → (∀ i, i < n1 → AL.contains i = false → (∀ m, (i, m) ∉ KL) → vp Vs i (vs (ds.getD i 0)) w) →
      (∀ i, AL.contains i = true → ∃ g, vs (ds.getD i 0) = .pointer (some ⟨g, 0, none⟩) ∧ w0.heap.size ≤ g ∧ Blk w g T z) → (∀ i j, AL.contains i = true → AL.contains j = true → i ≠ j → vs (ds.getD i 0) ≠ vs (ds.getD j 0)) → wpList Try.prog l.toArray Q (l.drop n1) (putAll a0 ds vs) w) :
    (Code.region id l.toArray true).wp Try.prog Q a0 w0 := by
  refine wp_region_varq n1 ds E AL M KL T z (vp Vs) (fun _ _ => True) mixed_ hns hB hF hD (fun _ _ _ _ _ _ => trivial) (fun _ _ _ _ => trivial) hz hKA hKE hME hQ (fun i v w w' h hb => (Vs.getD i SP.any).st v w w' h hb) ?_ (fun vs w h1 h2 h3 h4 => wpListS_plain _ _ _ _ (fun _ _ _ => trivial) (hend vs w h1 h2 h3 h4))
  intro i hi hA a w hb hs hd
  have h := hop i hi hA a w hb hs hd
  cases ho : l[i]? with
  | none => trivial
  | some o =>
    rw [ho] at h
    simp only at h ⊢
    split at h
    · next h1 =>
      rw [if_pos h1]
      obtain ⟨v, h2, h3⟩ := h
      exact ⟨v, fun w _ => h2 w, h3⟩
    next h1 =>
    rw [if_neg h1]
    exact h
end
end Go.Proofs.Ytddbmckbankmeaa
