/- Part 16 of the texts behind this claim. -/
import Derived.Deep.AppendLies
import Derived.Test.YtddbmckbankmeaaKs15
set_option linter.unusedVariables false
set_option linter.unusedSimpArgs false
namespace Go.Proofs.Ytddbmckbankmeaa
open Go.RowKit
theorem ri_news {w : World} {ad : Addr} {l : List Int} (h : RI w (some ad) l) : ∀ j u, (ints l)[j]? = some u → w.cell? (ad.add j) = some u := fun j u hu => by
  have hj : j < l.length := by
    rcases Nat.lt_or_ge j l.length with h | h
    · exact h
    · rw [List.getElem?_eq_none (by rw [ints_length]; exact h)] at hu
      cases hu
  obtain ⟨ad', e, hc⟩ := h (by omega)
  injection e with e
  subst e
  rw [ints_get l hj] at hu
  rw [hc j hj, ← Option.some.inj hu]
theorem ri_row {w : World} {ad : Addr} {l : List Int} (h : RI w (some ad) l) : (ints l).length = l.length * 1 ∧ (0 < l.length → ∃ ad', some ad = some ad' ∧ ad'.block < w.heap.size ∧ ∀ j u, (ints l)[j]? = some u → w.cell? (ad'.add j) = some u) := by
  refine ⟨by rw [ints_length, Nat.mul_one], fun hn => ⟨ad, rfl, ?_, ri_news h⟩⟩
  obtain ⟨ad', e, hc⟩ := h hn
  injection e with e
  subst e
  have := World.block_lt_of_cell? _ _ (hc 0 hn)
  rwa [block_add] at this
theorem ints_one (l : List Int) : ∀ u ∈ ints l, u.oneCell' = true := fun u hu => by
  obtain ⟨x, _, rfl⟩ := List.mem_map.1 hu
  rfl
theorem OwnI.cl {lo : Nat} {w : World} {v : Value} {xs : List Int} (h : OwnI lo w v xs) : ∃ A k, v = .slice A xs.length k ∧ RI w A xs ∧ (∀ ad, A = some ad → lo ≤ ad.block) ∧ xs.length ≤ k ∧ k ≤ 9223372036854775807 := by
  rcases h.2 with ⟨rfl, h0⟩ | ⟨g, cap, cur, rfl, hg, hh, hnc, hcm, hcs, htk⟩
  · have : xs = [] := List.eq_nil_of_length_eq_zero h0
    subst this
    exact ⟨none, 0, rfl, RI.nil _ _, (fun ad h => by cases h), Nat.le_refl _, by omega⟩
  · refine ⟨some ⟨g, 0, none⟩, cap, rfl, fun _ => ⟨_, rfl, fun j hj => ?_⟩, (fun ad h => by rw [← Option.some.inj h]; exact hg), hnc, by unfold maxLen at hcm; omega⟩
    rw [addr_zero, cell_of_row w g j cur 3 (0, 0) hh, ← Array.getElem?_toList]
    have : cur.toList[j]? = (ints xs)[j]? := by
      rw [← htk, List.getElem?_take, if_pos (by omega)]
    rw [this, ints_get xs hj]
theorem clone_own (ad : Addr) (c : Nat) (l : List Int) (w : World) (hr : RI w (some ad) l) (hl : l.length ≤ 1000000) :
    Calls Try.prog 36 #[.slice (some ad) l.length c] w fun e w' => ∃ v, e = .returned v ∧ OwnI w.heap.size w' v l ∧ Below w.heap.size w w' := by
  have heq := fun W => Lib.run_eql_slice_nil (P := Try.prog) W 22 3 (some ad) l.length c 0 0 Try.underlying22
  have hown : (w.alloc (.cells #[] 3)).ownsRow w.heap.size 3 1 (.slice (some ⟨w.heap.size, 0, none⟩) 0 0) 0 (ints []) := ⟨rfl, .inr ⟨w.heap.size, 0, #[], rfl, Nat.le_refl _, heap_alloc_new w (.cells #[] 3), Nat.le_refl _, by unfold maxLen; omega, rfl, rfl⟩⟩
  have hri := hr.to (below_alloc (Below.refl _ _) (.cells #[] 3))
  have hrd := ri_row hri
  have HO := Hd.mk hown
  have HR := Hd.mk hrd
  obtain ⟨i0, hi, hz0, hz1, hz2⟩ := info_parts Try.info_int
  clear hr hown hrd hri
  go_enter Try.func36, Try.ntmps36
  go_wp2_with (first | (at_builtin; go_loud (refine wpList_append_any _ rfl (.tmp 5) (.tmp 6) 22 rfl w.heap.size 3 i0 (.int .i64 0) 1 8 Try.underlying22 hi hz0 hz1 hz2 rfl (by decide) (.slice (some ⟨w.heap.size, 0, none⟩) 0 0) 0 (ints []) rfl HO.out _ (some ad) l.length c (ints l) rfl HR.out (by intro u hu; obtain ⟨x, _, rfl⟩ := List.mem_map.1 hu; rfl) (by unfold maxLen; omega) (by omega) (by simp) ?_; intro v1 w1 hown1 hg1 hat1)))
  rw [Nat.zero_add, show ints [] ++ ints l = ints l from rfl] at hown1
  have HRES := Hd.mk (OwnI.cl hown1)
  have HOWN : Hd (OwnI w.heap.size w1 v1 l) := ⟨hown1⟩
  clear hown1
  obtain ⟨A1, k1, rfl, r1, r2, r3, r4⟩ := HRES.out
  go_wp2
  go_ret
  exact ⟨_, rfl, HOWN.out, (below_alloc (Below.refl w.heap.size w) _).grown hg1 (by simp) (fun j e => by cases e; exact Nat.le_refl _)⟩
theorem op_neqSS {o : Oper} {a : Act} {x y : Operand} {ty : TypeId} {v : Value} (hv : ∃ s, v = .string s) (ho : o.op = .binOp .neq 9 x y ty) (hx : a.eval x = v) (hy : a.eval y = v) (w : World) : (execOp a.eval o).run Try.prog w = .ok (.value (.bool false)) w := by
  obtain ⟨s, rfl⟩ := hv
  generalize a.eval = ev at hx hy ⊢
  unfold execOp
  simp only [ho, hx, hy]
  simp [go_sem]
theorem len_nat {W H : Int} {xs : List Int} (hv : validB W H xs = true) : xs.length = W.toNat * H.toNat := by
  have h := valid_len hv
  have h2 := sizeB_bounds (valid_size hv)
  have e : (xs.length : Int) = ((W.toNat * H.toNat : Nat) : Int) := by rw [Int.natCast_mul, Int.toNat_of_nonneg (by omega), Int.toNat_of_nonneg (by omega)]; exact h
  exact Int.ofNat.inj e
def isOS (lo : Nat) (W H : Int) (ys : List Int) : SP := ⟨fun v w => ∃ A k, v = .agg #[.int .i64 W, .int .i64 H, .slice A ys.length k] ∧ OwnI lo w (.slice A ys.length k) ys, fun v w w' ⟨A, k, h1, h2⟩ hb => ⟨A, k, h1, h2.to hb⟩⟩
section
variable {Q : Exit → Act → World → Prop} {o : Oper} {a : Act} {w : World} {d : Nat} {x y z : Operand} {ad : Addr} {c lo : Nat} {v0 : Value} {xs ys : List Int} {R : Act → World → Prop}
theorem own_int {g : Nat} (h : OwnI lo w v0 xs) (hg : v0.ownBlock = some g) : ∃ cur, w.heap[g]? = some (.cells cur 3 (0, 0)) := by
  rcases h.2 with ⟨rfl, h0⟩ | ⟨g', cap, cur, rfl, _, hh, _⟩
  · cases hg
  · injection hg with hg
    subst hg
    exact ⟨cur, hh⟩
theorem op_appI (ho : o.op = .call { callee := .builtin .append, args := #[x, y], argTypes := #[22, 22] }) (hd : o.dst = some d) (hx : a.eval x = v0) (hown : OwnI lo w v0 xs) (hy : a.eval y = .slice (some ad) ys.length c) (hri : RI w (some ad) ys) (hpos : 0 < ys.length) (hlen : xs.length + ys.length ≤ 1000000) (hlo : lo ≤ w.heap.size)
    (hK : ∀ v w', OwnI lo w' v (xs ++ ys) → w.grownBy w' v0.ownBlock → R (a.put (some d) v) w') : o.wp Try.prog a w R Q := by
  obtain ⟨i0, hi, hz0, hz1, hz2⟩ := info_parts Try.info_int
  refine wp_append_lies w x y 22 ho lo 3 i0 (.int .i64 0) 1 8 Try.underlying22 hi hz0 hz1 hz2 rfl (by decide) v0 xs.length (ints xs) hx hown ad ys.length c (ints ys) hy (by rw [ints_length, Nat.mul_one]) (ri_news hri) (ints_one ys) hpos (by unfold maxLen; omega) (by omega) hlo _ rfl ?_
  intro g cap w' h1 h2 _ _
  rw [hd]
  refine hK _ w' ?_ h2
  unfold OwnI
  rw [List.length_append, show ints (xs ++ ys) = ints xs ++ ints ys from by simp [ints]]
  exact h1
theorem op_buOS {b1 b2 : Int} (ho : o.op = .build 27 #[(0, x), (1, y), (2, z)]) (h0 : a.eval x = .int .i64 b1) (h1 : a.eval y = .int .i64 b2) (h2 : OwnI lo w (a.eval z) ys) : ∃ v, (∀ w, (execOp a.eval o).run Try.prog w = .ok (.value v) w) ∧ (isOS lo b1 b2 ys).p v w := by
  obtain ⟨A, k, e, _⟩ := OwnI.cl h2
  rw [e] at h2
  exact ⟨_, op_buT ho h0 h1 e, A, k, rfl, h2⟩
end
theorem blk_grown {w w' : World} {g : Nat} {t : TypeId} {us : List Value} {row : Option Nat} (h : Blk w g t us) (hg : w.grownBy w' row) (hne : ∀ r, row = some r → r ≠ g) : Blk w' g t us := (hg.block g h.lt (fun e => hne g e.symm rfl)).trans h
theorem own_ne {lo g : Nat} {w : World} {v0 : Value} {xs : List Int} {t : TypeId} {us : List Value} (h : OwnI lo w v0 xs) (hb : Blk w g t us) (ht : t ≠ 3) : ∀ r, v0.ownBlock = some r → r ≠ g := fun r hr e => by
  subst e
  obtain ⟨cur, hc⟩ := own_int h hr
  unfold Blk at hb
  rw [hb] at hc
  injection hc with hc
  injection hc with _ hc
  exact ht hc
theorem OwnI.putT {lo g o : Nat} {w : World} {v : Value} {xs : List Int} {t : TypeId} {us vs : List Value} (h : OwnI lo w v xs) (hb : Blk w g t us) (ht : t ≠ 3) : OwnI lo (putL w g o vs) v xs := by
  have hne := own_ne h hb ht
  refine ⟨h.1, ?_⟩
  rcases h.2 with hn | ⟨g', cap, cur, rfl, hg, hh, rest⟩
  · exact .inl hn
  · exact .inr ⟨g', cap, cur, rfl, hg, (putL_heap (hne g' rfl) vs w o).trans hh, rest⟩
def CellsI (w : World) (A : Option Addr) (ys : List Int) : Prop := RI w A ys ∧ ∀ ad, A = some ad → ∃ cur, w.heap[ad.block]? = some (.cells cur 3 (0, 0))
section
variable {w w' : World} {A : Option Addr} {ys : List Int} {lo : Nat} {k n : Nat}
theorem OwnI.ci (h : OwnI lo w (.slice A n k) ys) : CellsI w A ys := by
  refine ⟨?_, fun ad e => ?_⟩
  · obtain ⟨A', k', e, h1, _⟩ := OwnI.cl h
    injection e with e1 e2 e3
    rw [e1]
    exact h1
  · rcases h.2 with ⟨e2, h0⟩ | ⟨g', cap, cur, e2, _, hh, _⟩
    · injection e2 with e3
      rw [e] at e3
      cases e3
    · injection e2 with e3
      rw [e] at e3
      injection e3 with e3
      subst e3
      exact ⟨cur, hh⟩
theorem CellsI.to (h : CellsI w A ys) (hb : Below w.heap.size w w') : CellsI w' A ys := ⟨h.1.to hb, fun ad e => by
  obtain ⟨cur, hc⟩ := h.2 ad e
  have hlt : ad.block < w.heap.size := (Array.getElem?_eq_some_iff.1 hc).1
  exact ⟨cur, (hb.block _ hlt).trans hc⟩⟩
end
theorem op_buT01 {o : Oper} {a : Act} {x y : Operand} {b1 b2 : Int} (ho : o.op = .build 27 #[(0, x), (1, y)]) (h0 : a.eval x = .int .i64 b1) (h1 : a.eval y = .int .i64 b2) (w : World) : (execOp a.eval o).run Try.prog w = .ok (.value (.agg #[.int .i64 b1, .int .i64 b2, .slice none 0 0])) w := by
  generalize a.eval = ev at h0 h1 ⊢
  unfold execOp
  simp only [ho]
  simp [go_sem, h0, h1]
theorem op_slc2 {o : Oper} {a : Act} {x y z : Operand} {ad : Addr} {n k i j m : Nat} (hm : j - i = m) (hij : i < j) (hj : j ≤ n) (hk : n ≤ k) (ho : o.op = .slice 22 x (some y) (some z) none) (hx : a.eval x = .slice (some ad) n k) (hy : a.eval y = .int .i64 (i : Int)) (hz : a.eval z = .int .i64 (j : Int)) (w : World) : (execOp a.eval o).run Try.prog w = .ok (.value (.slice (some (ad.add i)) m (k - i))) w := by
  subst hm
  generalize a.eval = ev at hx hy hz ⊢
  unfold execOp
  simp only [ho, Option.map_some, Option.map_none, hx, hy, hz]
  have h1 : (i : Int) ≤ (j : Int) := by omega
  have h2 : (j : Int) ≤ (k : Int) := by omega
  have h3 : ¬ k = i := by omega
  simp [go_sem, h1, h2, h3]
theorem ri_drop {w : World} {ad : Addr} {xs : List Int} (h : RI w (some ad) xs) (i : Nat) : RI w (some (ad.add i)) (xs.drop i) := fun hn => by
  rw [List.length_drop] at hn
  obtain ⟨ad', e, hc⟩ := h (by omega)
  injection e with e
  subst e
  refine ⟨_, rfl, fun j hj => ?_⟩
  rw [List.length_drop] at hj
  rw [add_of_add, hc (i + j) (by omega)]
  simp only [List.getD_eq_getElem?_getD, List.getElem?_drop]
theorem env_app {lo : Nat} {w w' : World} {v : Value} {xs : List Int} {L : List Ent} (h : Env w L) (ho : OwnI lo w v xs) (hg : w.grownBy w' v.ownBlock) (ht : L.all (fun e => decide (e.t ≠ 3)) = true) : Env w' L :=
  Env.grownBy_ h hg (fun e he hc => own_ne ho (h.mem he) (of_decide_eq_true (List.all_eq_true.1 ht e he)) e.g hc.symm rfl)
theorem sto_S {w : World} {g off n k : Nat} {t : TypeId} {us : List Value} {v : Value} {A : Option Addr} (h : Blk w g t us) (hv : us[off]? = some v) : (Instr.storeAt 22 (.pointer (some ⟨g, off, none⟩)) (.slice A n k)).run Try.prog w = .ok () (putL w g off [.slice A n k]) := by
  have h0 := (h.cell off).trans hv
  have f0 := h.frozen off
  simp only [putL]
  simp [go_sem, h0, f0]
set_option maxRecDepth 100000 in
set_option maxHeartbeats 1000000 in
theorem Same_ok (Wd Ht x y t : Int) (f : Bool) (ad : Addr) (k : Nat) (xs : List Int) (wide : Bool) (hW : 1 ≤ Wd ∧ Wd ≤ 6) (hH : 1 ≤ Ht ∧ Ht ≤ 6) (w : World) (hri : RI w (some ad) xs) (hlk : xs.length ≤ k) (hv : validB Wd Ht xs = true) (hm : alB Wd Ht x y t = true) :
    Calls Try.prog 8 #[.agg #[.int .i64 Wd, .int .i64 Ht, .slice (some ad) xs.length k], .agg #[.int .i64 x, .int .i64 y, .int .i64 t, .bool f], .bool wide] w (Got w (isV (.bool true)).p) := by
  have HRI := Hd.mk hri
  have hsh := valid_short hv
  have HSTY := Hd.mk (fun W (h : RI W (some ad) xs) => (show Calls Try.prog 15 #[_] W (Got W (isSt W.heap.size Wd Ht xs).p) from by have q := stamps_got Wd Ht (some ad) k xs W h hlk (fun h => by cases h); rwa [List.take_of_length_le (by omega)] at q))
  have HV := Hd.mk hv
  have HW := Hd.mk hW
  have HH := Hd.mk hH
  have HMX := Hd.mk (len_nat hv)
  have hlen1 : 0 < xs.length := by have h := valid_len hv; have h2 := Int.mul_pos (show 0 < Wd by omega) (show 0 < Ht by omega); omega
  have HKM : Hd (kindF (colF Wd Ht (apL Wd Ht x y t f xs)) = kindF (colF Wd Ht xs)) := ⟨kind_move (m := ⟨x, y, t, f⟩) (al_of (f := f) (valid_size hv) hm) (valid_len hv)⟩
  have HM := Hd.mk hm
  clear hri hv hm
  go_enter Try.func8, Try.ntmps8
  go_upto_region 1 with fail
  obtain ⟨W0, hW0⟩ : ∃ W : World, W = (w.alloc (.cells #[.int .i64 Wd, .int .i64 Ht, .slice (some ad) xs.length k] 24)).alloc (.cells #[.int .i64 x, .int .i64 y, .int .i64 t, .bool f] 26) := ⟨_, rfl⟩
  rw [← hW0]
  obtain ⟨he, hb⟩ := env_two hW0
  have HE := Hd.mk he
  have HB := Hd.mk hb
  clear he hb hW0
  refine wp_region_vd 6 [18, 19, 20, 17, 21, 22] [3, 4, 5] [] 84 [.int .i64 0, .int .i64 0] [isV (.agg #[.int .i64 Wd, .int .i64 Ht, .slice (some ad) xs.length k]), isSt W0.heap.size Wd Ht xs, isP (isV (knm (kindF (colF Wd Ht xs)))) (isV (.int .i64 0)), isP (isV (knm (kindF (colF Wd Ht xs)))) (isV (.int .i64 0)), isV (knm (kindF (colF Wd Ht xs))), isV (.int .i64 0)] (by rfl) alloc_Z ?_ ?_
  · intro qi qh qA aa wx hb hs hd
    match qi, qh, qA with
    | 0, _, _ => exact .inl ⟨rfl, op_ldU rfl rfl (hs 3 rfl) ((HE.out.to hb).get 0 rfl)⟩
    | 1, _, _ => exact .inl ⟨rfl, op_call1 rfl rfl Try.call15 (by rw [(show aa.eval (.tmp 18) = .agg #[.int .i64 Wd, .int .i64 Ht, .slice (some ad) xs.length k] from (hd 0 rfl))]; exact got_st hb.size (HSTY.out _ (HRI.out.to (bel_then HB.out hb))))⟩
    | 2, _, _ => exact .inl ⟨rfl, op_call1 rfl rfl Try.call34 (Kind_rd_ok HV.out HW.out HH.out (rd_st (hd 1 rfl)))⟩
    | 3, _, _ => exact .inl ⟨rfl, op_mv rfl (hd 2 rfl)⟩
    | 4, _, _ => exact .inl ⟨rfl, op_fst rfl (hd 3 rfl)⟩
    | 5, _, _ => exact .inl ⟨rfl, op_snd rfl (hd 3 rfl)⟩
    | qi + 6, h, _ => omega
  · intro vs X1 hb hv hal hne
    have HL0 := Hd.mk (HE.out.lt)
    have HBW := HB
    replace HB := Hd.mk (bel_then HB.out hb)
    replace HE : Hd (Env X1 [⟨w.heap.size, 24, [.int .i64 Wd, .int .i64 Ht, .slice (some ad) xs.length k]⟩, ⟨w.heap.size + 1, 26, [.int .i64 x, .int .i64 y, .int .i64 t, .bool f]⟩]) := ⟨HE.out.to hb⟩
    have HLS := HL0
    have e21 : vs 21 = knm (kindF (colF Wd Ht xs)) := hv 4 (by decide) rfl
    have e22 : vs 22 = .int .i64 0 := hv 5 (by decide) rfl
    simp only [putAll, List.foldl_cons, List.foldl_nil, Act.put, List.setIfInBounds_toArray, List.set_cons_succ, List.set_cons_zero, List.drop_succ_cons, List.drop_zero, e21, e22]
    generalize vs 18 = s18
    generalize vs 19 = s19
    generalize vs 20 = s20
    generalize vs 17 = s17
    clear hv hal hne hb HL0 HBW HLS e21 e22
    go_upto_region 2 with fail
    refine wp_region_vs 9 [24, 25, 26, 27, 28, 23, 29, 30, 9] [5, 6, 7] [8] 27 [.int .i64 0, .int .i64 0, .slice none 0 0] [isV (.agg #[.int .i64 x, .int .i64 y, .int .i64 t, .bool f]), isV (.agg #[.int .i64 x, .int .i64 y, .int .i64 t, .bool f]), isV (.agg #[.int .i64 Wd, .int .i64 Ht, .slice (some ad) xs.length k]), isSt X1.heap.size Wd Ht xs, isP (isFS X1.heap.size Wd Ht (apL Wd Ht x y t f xs)) (isV (.int .i64 0)), isP (isFS X1.heap.size Wd Ht (apL Wd Ht x y t f xs)) (isV (.int .i64 0)), isFS X1.heap.size Wd Ht (apL Wd Ht x y t f xs), isV (.int .i64 0), SP.any] (by kernel_rfl) (by kernel_rfl) (by kernel_rfl) (by rfl) alloc_T (fun d v c a w h => by cases d <;> exact h) ?_ ?_
    · intro qi qh qA aa wx hb hs hd
      match qi, qh, qA with
      | 0, _, _ => exact op_ldN rfl rfl (hs 4 rfl) ((HE.out.to hb).get 1 rfl)
      | 1, _, _ => exact op_call1 rfl rfl Try.call14 (by rw [(show aa.eval (.tmp 24) = .agg #[.int .i64 x, .int .i64 y, .int .i64 t, .bool f] from (hd 0 rfl))]; exact move_got x y t f _)
      | 2, _, _ => exact op_ldU rfl rfl (hs 3 rfl) ((HE.out.to hb).get 0 rfl)
      | 3, _, _ => exact op_call1 rfl rfl Try.call15 (by rw [(show aa.eval (.tmp 26) = .agg #[.int .i64 Wd, .int .i64 Ht, .slice (some ad) xs.length k] from (hd 2 rfl))]; exact got_st hb.size (HSTY.out _ (HRI.out.to (bel_then HB.out hb))))
      | 4, _, _ => exact op_call2 rfl rfl Try.call13 (by rw [show aa.eval (.tmp 25) = .agg #[.int .i64 x, .int .i64 y, .int .i64 t, .bool f] from (hd 1 rfl)]; exact got_fsp hb.size (Apply_rd Wd Ht x y t f xs HV.out HM.out _ _ (rd_st (hd 3 rfl))))
      | 5, _, _ => exact op_mv rfl (hd 4 rfl)
      | 6, _, _ => exact op_fst rfl (hd 5 rfl)
      | 7, _, _ => exact op_snd rfl (hd 5 rfl)
      | 8, _, h => cases h
      | qi + 9, h, _ => omega
    · intro vs X2 hb hv hal hne
      have HL0 := Hd.mk (HE.out.lt)
      have HBW := HB
      replace HB := Hd.mk (bel_then HB.out hb)
      replace HE : Hd (Env X2 [⟨w.heap.size, 24, [.int .i64 Wd, .int .i64 Ht, .slice (some ad) xs.length k]⟩, ⟨w.heap.size + 1, 26, [.int .i64 x, .int .i64 y, .int .i64 t, .bool f]⟩]) := ⟨HE.out.to hb⟩
      have HLS := HL0
      have t29 : (isFS X1.heap.size Wd Ht (apL Wd Ht x y t f xs)).p (vs 29) X2 := hv 6 (by decide) rfl
      obtain ⟨g29, k29, rest29, e29, l29, m29, n29, b29⟩ := t29
      replace HE : Hd (Env X2 [⟨w.heap.size, 24, [.int .i64 Wd, .int .i64 Ht, .slice (some ad) xs.length k]⟩, ⟨w.heap.size + 1, 26, [.int .i64 x, .int .i64 y, .int .i64 t, .bool f]⟩, ⟨g29, 3, ints (apL Wd Ht x y t f xs) ++ rest29⟩]) := ⟨Env.addne (e := ⟨g29, 3, ints (apL Wd Ht x y t f xs) ++ rest29⟩) HE.out b29 (fun e' he => Nat.ne_of_lt (Nat.lt_of_lt_of_le (HL0.out e' he) l29))⟩
      have G29 : Hd (w.heap.size ≤ g29) := ⟨Nat.le_trans HBW.out.size l29⟩
      have e30 : vs 30 = .int .i64 0 := hv 7 (by decide) rfl
      obtain ⟨g9, e9, l9, b9⟩ : ∃ g, vs 9 = .pointer (some ⟨g, 0, none⟩) ∧ _ := hal 8 rfl
      replace HE : Hd (Env X2 [⟨w.heap.size, 24, [.int .i64 Wd, .int .i64 Ht, .slice (some ad) xs.length k]⟩, ⟨w.heap.size + 1, 26, [.int .i64 x, .int .i64 y, .int .i64 t, .bool f]⟩, ⟨g29, 3, ints (apL Wd Ht x y t f xs) ++ rest29⟩, ⟨g9, 27, [.int .i64 0, .int .i64 0, .slice none 0 0]⟩]) := ⟨Env.addne (e := ⟨g9, 27, [.int .i64 0, .int .i64 0, .slice none 0 0]⟩) HE.out b9 (fun e' he => (List.mem_append.1 (show e' ∈ _ ++ [_] from he)).elim (fun he => Nat.ne_of_lt (Nat.lt_of_lt_of_le (HL0.out e' he) l9)) (fun he => by rw [List.mem_singleton.1 he]; exact blk_ne b29 b9 (by decide)))⟩
      have G9 : Hd (w.heap.size ≤ g9) := ⟨Nat.le_trans HBW.out.size l9⟩
      simp only [putAll, List.foldl_cons, List.foldl_nil, Act.put, List.setIfInBounds_toArray, List.set_cons_succ, List.set_cons_zero, List.drop_succ_cons, List.drop_zero, e29, e30, e9]
      generalize vs 24 = s24
      generalize vs 25 = s25
      generalize vs 26 = s26
      generalize vs 27 = s27
      generalize vs 28 = s28
      generalize vs 23 = s23
      clear hv hal hne hb HL0 HBW HLS e29 e30 e9 l29 b29 l9 b9
      refine wpList_st rfl rfl rfl rfl rfl (sto_T (HE.out.get 3 rfl)) ?_
      have HE' : Env (putL X2 g9 0 [.int .i64 Wd, .int .i64 Ht, .slice (some ⟨g29, 0, none⟩) ((apL Wd Ht x y t f xs).length) k29]) [⟨w.heap.size, 24, [.int .i64 Wd, .int .i64 Ht, .slice (some ad) xs.length k]⟩, ⟨w.heap.size + 1, 26, [.int .i64 x, .int .i64 y, .int .i64 t, .bool f]⟩, ⟨g29, 3, ints (apL Wd Ht x y t f xs) ++ rest29⟩, ⟨g9, 27, [.int .i64 Wd, .int .i64 Ht, .slice (some ⟨g29, 0, none⟩) ((apL Wd Ht x y t f xs).length) k29]⟩] := HE.out.putF 3 rfl rfl
      have HB' := putL_below (show w.heap.size ≤ g9 from G9.out) [.int .i64 Wd, .int .i64 Ht, .slice (some ⟨g29, 0, none⟩) ((apL Wd Ht x y t f xs).length) k29] _ 0 HB.out
      generalize putL X2 g9 0 [.int .i64 Wd, .int .i64 Ht, .slice (some ⟨g29, 0, none⟩) ((apL Wd Ht x y t f xs).length) k29] = X3 at *
      replace HE := Hd.mk HE'
      replace HB := Hd.mk HB'
      clear HE' HB'
      go_upto_region 3 with fail
      refine wp_region_vd 7 [31, 32, 33, 34, 35, 36, 37] [0, 1, 2, 5, 6] [] 84 [.int .i64 0, .int .i64 0] [isV (.int .i64 0), isV (.bool false), isV (.bool false), isV (.agg #[.int .i64 Wd, .int .i64 Ht, .slice (some ad) xs.length k]), isV (.bool true), isV (.bool false), isV (.bool false)] (by rfl) alloc_Z ?_ ?_
      · intro qi qh qA aa wx hb hs hd
        match qi, qh, qA with
        | 0, _, _ => exact .inl ⟨rfl, op_mv rfl (hs 8 rfl)⟩
        | 1, _, _ => exact .inl ⟨rfl, pure_b (bool_eq (by decide)) (⟨_, op_neqE rfl (hd 0 rfl) rfl, rfl⟩)⟩
        | 2, _, _ => exact .inl ⟨rfl, op_mv rfl (hd 1 rfl)⟩
        | 3, _, _ => exact .inl ⟨⟨rfl, .inl (hd 2 rfl)⟩, op_ldU rfl rfl (hs 3 rfl) ((HE.out.to hb).get 0 rfl)⟩
        | 4, _, _ => exact .inl ⟨⟨rfl, .inl (hd 2 rfl)⟩, wp_b (bool_eq HV.out) (op_call1 rfl rfl Try.call17 (rValid_rd Wd Ht xs _ _ (rd_ex (xs := xs) (hd 3 rfl) (HRI.out.to (bel_then HB.out hb)))))⟩
        | 5, _, _ => exact .inl ⟨⟨rfl, .inl (hd 2 rfl)⟩, ⟨_, op_not rfl (hd 4 rfl), rfl⟩⟩
        | 6, _, _ => exact .inl ⟨rfl, ⟨_, op_pickF rfl (hd 2 rfl) (hd 5 rfl), rfl⟩⟩
        | qi + 7, h, _ => omega
      · intro vs X4 hb hv hal hne
        have HL0 := Hd.mk (HE.out.lt)
        have HBW := HB
        replace HB := Hd.mk (bel_then HB.out hb)
        replace HE : Hd (Env X4 [⟨w.heap.size, 24, [.int .i64 Wd, .int .i64 Ht, .slice (some ad) xs.length k]⟩, ⟨w.heap.size + 1, 26, [.int .i64 x, .int .i64 y, .int .i64 t, .bool f]⟩, ⟨g29, 3, ints (apL Wd Ht x y t f xs) ++ rest29⟩, ⟨g9, 27, [.int .i64 Wd, .int .i64 Ht, .slice (some ⟨g29, 0, none⟩) ((apL Wd Ht x y t f xs).length) k29]⟩]) := ⟨HE.out.to hb⟩
        have HLS := HL0
        have e37 : vs 37 = .bool false := hv 6 (by decide) rfl
        simp only [putAll, List.foldl_cons, List.foldl_nil, Act.put, List.setIfInBounds_toArray, List.set_cons_succ, List.set_cons_zero, List.drop_succ_cons, List.drop_zero, e37]
        generalize vs 31 = s31
        generalize vs 32 = s32
        generalize vs 33 = s33
        generalize vs 34 = s34
        generalize vs 35 = s35
        generalize vs 36 = s36
        clear hv hal hne hb HL0 HBW HLS e37
        go_upto_region 5 with fail
        refine wp_region_vd 2 [47, 48] [0, 1] [] 84 [.int .i64 0, .int .i64 0] [isV (.int .i64 0), isV (.bool true)] (by rfl) alloc_Z ?_ ?_
        · intro qi qh qA aa wx hb hs hd
          match qi, qh, qA with
          | 0, _, _ => exact .inl ⟨rfl, op_mv rfl (hs 10 rfl)⟩
          | 1, _, _ => exact .inl ⟨rfl, pure_b (bool_eq (by decide)) (⟨_, op_eqlE rfl (hd 0 rfl) rfl, rfl⟩)⟩
          | qi + 2, h, _ => omega
        · intro vs X5 hb hv hal hne
          have HL0 := Hd.mk (HE.out.lt)
          have HBW := HB
          replace HB := Hd.mk (bel_then HB.out hb)
          replace HE : Hd (Env X5 [⟨w.heap.size, 24, [.int .i64 Wd, .int .i64 Ht, .slice (some ad) xs.length k]⟩, ⟨w.heap.size + 1, 26, [.int .i64 x, .int .i64 y, .int .i64 t, .bool f]⟩, ⟨g29, 3, ints (apL Wd Ht x y t f xs) ++ rest29⟩, ⟨g9, 27, [.int .i64 Wd, .int .i64 Ht, .slice (some ⟨g29, 0, none⟩) ((apL Wd Ht x y t f xs).length) k29]⟩]) := ⟨HE.out.to hb⟩
          have HLS := HL0
          have e48 : vs 48 = .bool true := hv 1 (by decide) rfl
          simp only [putAll, List.foldl_cons, List.foldl_nil, Act.put, List.setIfInBounds_toArray, List.set_cons_succ, List.set_cons_zero, List.drop_succ_cons, List.drop_zero, e48]
          generalize vs 47 = s47
          clear hv hal hne hb HL0 HBW HLS e48
          go_upto_region 6 with fail
          refine wp_region_vd 5 [50, 51, 49, 52, 53] [2, 3, 4] [] 84 [.int .i64 0, .int .i64 0] [isV (.agg #[.int .i64 Wd, .int .i64 Ht, .slice (some ⟨g29, 0, none⟩) ((apL Wd Ht x y t f xs).length) k29]), isP (isV (knm (kindF (colF Wd Ht xs)))) (isV (.int .i64 0)), isP (isV (knm (kindF (colF Wd Ht xs)))) (isV (.int .i64 0)), isV (knm (kindF (colF Wd Ht xs))), isV (.int .i64 0)] (by rfl) alloc_Z ?_ ?_
          · intro qi qh qA aa wx hb hs hd
            match qi, qh, qA with
            | 0, _, _ => exact .inl ⟨rfl, op_ldT rfl rfl (hs 9 rfl) ((HE.out.to hb).get 3 rfl)⟩
            | 1, _, _ => exact .inl ⟨rfl, op_call1 rfl rfl Try.call34 (by have q := Kind_rd_ok (apL_valid HV.out) HW.out HH.out (rd_ex (xs := apL Wd Ht x y t f xs) (hd 0 rfl) ((HE.out.to hb).get 2 rfl).ri); rw [HKM.out] at q; exact q)⟩
            | 2, _, _ => exact .inl ⟨rfl, op_mv rfl (hd 1 rfl)⟩
            | 3, _, _ => exact .inl ⟨rfl, op_fst rfl (hd 2 rfl)⟩
            | 4, _, _ => exact .inl ⟨rfl, op_snd rfl (hd 2 rfl)⟩
            | qi + 5, h, _ => omega
          · intro vs X6 hb hv hal hne
            have HL0 := Hd.mk (HE.out.lt)
            have HBW := HB
            replace HB := Hd.mk (bel_then HB.out hb)
            replace HE : Hd (Env X6 [⟨w.heap.size, 24, [.int .i64 Wd, .int .i64 Ht, .slice (some ad) xs.length k]⟩, ⟨w.heap.size + 1, 26, [.int .i64 x, .int .i64 y, .int .i64 t, .bool f]⟩, ⟨g29, 3, ints (apL Wd Ht x y t f xs) ++ rest29⟩, ⟨g9, 27, [.int .i64 Wd, .int .i64 Ht, .slice (some ⟨g29, 0, none⟩) ((apL Wd Ht x y t f xs).length) k29]⟩]) := ⟨HE.out.to hb⟩
            have HLS := HL0
            have e52 : vs 52 = knm (kindF (colF Wd Ht xs)) := hv 3 (by decide) rfl
            have e53 : vs 53 = .int .i64 0 := hv 4 (by decide) rfl
            simp only [putAll, List.foldl_cons, List.foldl_nil, Act.put, List.setIfInBounds_toArray, List.set_cons_succ, List.set_cons_zero, List.drop_succ_cons, List.drop_zero, e52, e53]
            generalize vs 50 = s50
            generalize vs 51 = s51
            generalize vs 49 = s49
            clear hv hal hne hb HL0 HBW HLS e52 e53
            go_upto_region 7 with fail
            refine wp_region_vd 7 [54, 55, 56, 57, 58, 59, 60] [0, 1, 2, 3, 4, 5, 6] [] 84 [.int .i64 0, .int .i64 0] [isV (.int .i64 0), isV (.bool false), isV (.bool false), isV (knm (kindF (colF Wd Ht xs))), isV (knm (kindF (colF Wd Ht xs))), isV (.bool false), isV (.bool false)] (by rfl) alloc_Z ?_ ?_
            · intro qi qh qA aa wx hb hs hd
              match qi, qh, qA with
              | 0, _, _ => exact .inl ⟨rfl, op_mv rfl (hs 12 rfl)⟩
              | 1, _, _ => exact .inl ⟨rfl, pure_b (bool_eq (by decide)) (⟨_, op_neqE rfl (hd 0 rfl) rfl, rfl⟩)⟩
              | 2, _, _ => exact .inl ⟨rfl, op_mv rfl (hd 1 rfl)⟩
              | 3, _, _ => exact .inl ⟨⟨rfl, .inl (hd 2 rfl)⟩, op_mv rfl (hs 11 rfl)⟩
              | 4, _, _ => exact .inl ⟨⟨rfl, .inl (hd 2 rfl)⟩, op_mv rfl (hs 7 rfl)⟩
              | 5, _, _ => exact .inl ⟨⟨rfl, .inl (hd 2 rfl)⟩, ⟨_, op_neqSS (knm_str _) rfl (hd 3 rfl) (hd 4 rfl), rfl⟩⟩
              | 6, _, _ => exact .inl ⟨rfl, ⟨_, op_pickF rfl (hd 2 rfl) (hd 5 rfl), rfl⟩⟩
              | qi + 7, h, _ => omega
            · intro vs X7 hb hv hal hne
              have HL0 := Hd.mk (HE.out.lt)
              have HBW := HB
              replace HB := Hd.mk (bel_then HB.out hb)
              replace HE : Hd (Env X7 [⟨w.heap.size, 24, [.int .i64 Wd, .int .i64 Ht, .slice (some ad) xs.length k]⟩, ⟨w.heap.size + 1, 26, [.int .i64 x, .int .i64 y, .int .i64 t, .bool f]⟩, ⟨g29, 3, ints (apL Wd Ht x y t f xs) ++ rest29⟩, ⟨g9, 27, [.int .i64 Wd, .int .i64 Ht, .slice (some ⟨g29, 0, none⟩) ((apL Wd Ht x y t f xs).length) k29]⟩]) := ⟨HE.out.to hb⟩
              have HLS := HL0
              have e60 : vs 60 = .bool false := hv 6 (by decide) rfl
              simp only [putAll, List.foldl_cons, List.foldl_nil, Act.put, List.setIfInBounds_toArray, List.set_cons_succ, List.set_cons_zero, List.drop_succ_cons, List.drop_zero, e60]
              generalize vs 54 = s54
              generalize vs 55 = s55
              generalize vs 56 = s56
              generalize vs 57 = s57
              generalize vs 58 = s58
              generalize vs 59 = s59
              clear hv hal hne hb HL0 HBW HLS e60
              replace HE := Hd.mk (Env.front (L := [⟨w.heap.size, 24, [.int .i64 Wd, .int .i64 Ht, .slice (some ad) xs.length k]⟩, ⟨w.heap.size + 1, 26, [.int .i64 x, .int .i64 y, .int .i64 t, .bool f]⟩]) HE.out)
              go_upto_region 9 with fail
              refine wp_region_vm 13 [61, 62, 63, 64, 65, 66, 67, 68, 69, 70, 71, 72, 13] [0, 2, 4, 5, 8, 11] [12] [10] [(7, 10)] 27 [.int .i64 0, .int .i64 0, .slice none 0 0] [isV (.pointer (some ⟨w.heap.size, 0, none⟩)), isV (.int .i64 Wd), isV (.pointer (some ⟨w.heap.size, 1, none⟩)), isV (.int .i64 Ht), isV (.int .i64 (2 * Ht)), isV (.pointer (some ⟨w.heap.size, 2, none⟩)), isV (.slice (some ad) xs.length k), isIs X7.heap.size xs, isV (.pointer (some ⟨w.heap.size, 2, none⟩)), isV (.slice (some ad) xs.length k), isIs X7.heap.size (xs ++ xs), isOS X7.heap.size Wd (2 * Ht) (xs ++ xs), SP.any] (by kernel_rfl) (by kernel_rfl) (by kernel_rfl) (by rfl) alloc_T (fun j m h => by simp only [List.mem_singleton, Prod.mk.injEq] at h; rw [h.1]; rfl) (keb_spec (by kernel_rfl)) (fun i h => by rw [show i = 10 from by simpa using h]; rfl) (fun d v c a w h => by cases d <;> exact h) ?_ ?_
              · intro qi qh qA aa wx hb hs hd
                match qi, qh, qA with
                | 0, _, _ => exact ⟨_, op_faU0 rfl (hs 3 rfl), rfl⟩
                | 1, _, _ => exact op_ldI rfl rfl (hd 0 rfl) ((HE.out.to hb).cell 0 0 rfl rfl)
                | 2, _, _ => exact ⟨_, op_faU1 rfl (hs 3 rfl), rfl⟩
                | 3, _, _ => exact op_ldI rfl rfl (hd 2 rfl) ((HE.out.to hb).cell 0 1 rfl rfl)
                | 4, _, _ => exact ⟨_, op_mul (by unfold Fit; omega) rfl rfl (hd 3 rfl), rfl⟩
                | 5, _, _ => exact ⟨_, op_faU2 rfl (hs 3 rfl), rfl⟩
                | 6, _, _ => exact op_ldS rfl rfl (hd 5 rfl) ((HE.out.to hb).cell 0 2 rfl rfl)
                | 7, _, _ =>
                  simp only [List.getElem?_cons_succ, List.getElem?_cons_zero]
                  rw [if_neg (by decide), if_neg (by decide)]
                  exact op_call1 rfl rfl Try.call36 (by rw [show aa.eval (.tmp 67) = .slice (some ad) xs.length k from hd 6 rfl]; exact (clone_own ad k xs _ (HRI.out.to (bel_then HB.out hb)) (by omega)).mono (fun e w' ⟨v, h1, h2, h3⟩ => ⟨v, h1, h3, OwnI.lower hb.size h2⟩))
                | 8, _, _ => exact ⟨_, op_faU2 rfl (hs 3 rfl), rfl⟩
                | 9, _, _ => exact op_ldS rfl rfl (hd 8 rfl) ((HE.out.to hb).cell 0 2 rfl rfl)
                | 10, _, _ =>
                  simp only [List.getElem?_cons_succ, List.getElem?_cons_zero]
                  rw [if_neg (by decide), if_pos (by decide)]
                  refine op_appI (d := 71) (lo := X7.heap.size) rfl rfl rfl (hd 7 rfl) (hd 9 rfl) (HRI.out.to (bel_then HB.out hb)) hlen1 (by omega) hb.size ?_
                  intro v w' h1 h2
                  have hO : OwnI X7.heap.size wx _ xs := hd 7 rfl
                  refine ⟨v, rfl, hb.grown h2 hb.size (fun z hz => (OwnI.lt hO z hz).1), h1, fun j hj hne hk hdep u hu => ?_⟩
                  match j, hj with
                  | 0, _ => exact hu
                  | 1, _ => exact hu
                  | 2, _ => exact hu
                  | 3, _ => exact hu
                  | 4, _ => exact hu
                  | 5, _ => exact hu
                  | 6, _ => exact hu
                  | 7, _ => exact absurd (List.mem_singleton.2 rfl) hk
                  | 8, _ => exact hu
                  | 9, _ => exact hu
                  | 10, _ => exact absurd rfl hne
                  | 11, _ => exact absurd rfl (hdep _ rfl _ (.tail _ (.tail _ (.head _))) rfl)
                  | 12, _ =>
                    obtain ⟨g, a1, a2, a3⟩ := hu
                    exact ⟨g, a1, a2, blk_grown a3 h2 (own_ne hO a3 (by decide))⟩
                  | j + 13, h => omega
                | 11, _, _ => exact op_buOS rfl (hd 1 rfl) (hd 4 rfl) (hd 10 rfl)
                | 12, _, h => cases h
                | qi + 13, h, _ => omega
              · intro vs X9 hb hv hal hne
                have HL0 := Hd.mk (HE.out.lt)
                have HBW := HB
                replace HB := Hd.mk (bel_then HB.out hb)
                obtain ⟨A72, k72, e72, o72⟩ : ∃ A k, vs 72 = .agg #[.int .i64 Wd, .int .i64 (2 * Ht), .slice A (xs ++ xs).length k] ∧ OwnI X7.heap.size X9 (.slice A (xs ++ xs).length k) (xs ++ xs) := hv 11 (by decide) rfl (by simp)
                obtain ⟨g13, e13, l13, b13⟩ : ∃ g, vs 13 = .pointer (some ⟨g, 0, none⟩) ∧ _ := hal 12 rfl
                replace HE := Hd.mk (Env.addne (e := ⟨g13, 27, [.int .i64 0, .int .i64 0, .slice none 0 0]⟩) (HE.out.to hb) b13 (fun e' he => Nat.ne_of_lt (Nat.lt_of_lt_of_le (HL0.out e' he) l13)))
                have G13 : Hd (w.heap.size ≤ g13) := ⟨Nat.le_trans HBW.out.size l13⟩
                simp only [putAll, List.foldl_cons, List.foldl_nil, Act.put, List.setIfInBounds_toArray, List.set_cons_succ, List.set_cons_zero, List.drop_succ_cons, List.drop_zero, e72, e13]
                generalize vs 61 = s61
                generalize vs 62 = s62
                generalize vs 63 = s63
                generalize vs 64 = s64
                generalize vs 65 = s65
                generalize vs 66 = s66
                generalize vs 67 = s67
                generalize vs 68 = s68
                generalize vs 69 = s69
                generalize vs 70 = s70
                generalize vs 71 = s71
                clear hv hal hne hb HL0 HBW e72 e13 l13
                refine wpList_st rfl rfl rfl rfl rfl (sto_T (HE.out.get 2 rfl)) ?_
                have HE' : Env (putL X9 g13 0 [.int .i64 Wd, .int .i64 (2 * Ht), .slice A72 ((xs ++ xs).length) k72]) [⟨w.heap.size, 24, [.int .i64 Wd, .int .i64 Ht, .slice (some ad) xs.length k]⟩, ⟨w.heap.size + 1, 26, [.int .i64 x, .int .i64 y, .int .i64 t, .bool f]⟩, ⟨g13, 27, [.int .i64 Wd, .int .i64 (2 * Ht), .slice A72 ((xs ++ xs).length) k72]⟩] := HE.out.putF 2 rfl rfl
                have HB' := putL_below (show w.heap.size ≤ g13 from G13.out) [.int .i64 Wd, .int .i64 (2 * Ht), .slice A72 ((xs ++ xs).length) k72] _ 0 HB.out
                have HM := Hd.mk (OwnI.ci (o72.putT (vs := [.int .i64 Wd, .int .i64 (2 * Ht), .slice A72 ((xs ++ xs).length) k72]) (o := 0) b13 (by decide)))
                clear o72 b13
                generalize putL X9 g13 0 [.int .i64 Wd, .int .i64 (2 * Ht), .slice A72 ((xs ++ xs).length) k72] = X10 at *
                replace HE := Hd.mk HE'
                replace HB := Hd.mk HB'
                clear HE' HB'
                rcases (show wide = true ∨ wide = false by cases wide <;> simp) with hwd | hwd
                · have HWD := Hd.mk hwd
                  clear hwd
                  go_upto_region 10 with fail
                  refine wp_region_vd 1 [73] [0] [] 84 [.int .i64 0, .int .i64 0] [isV (.bool true)] (by rfl) alloc_Z ?_ ?_
                  · intro qi qh qA aa wx hb hs hd
                    match qi, qh, qA with
                    | 0, _, _ => exact .inl ⟨rfl, pure_b (bool_eq HWD.out) (op_mv rfl (hs 2 rfl))⟩
                    | qi + 1, h, _ => omega
                  · intro vs X8 hb hv hal hne
                    have HL0 := Hd.mk (HE.out.lt)
                    have HBW := HB
                    replace HB := Hd.mk (bel_then HB.out hb)
                    replace HE : Hd (Env X8 [⟨w.heap.size, 24, [.int .i64 Wd, .int .i64 Ht, .slice (some ad) xs.length k]⟩, ⟨w.heap.size + 1, 26, [.int .i64 x, .int .i64 y, .int .i64 t, .bool f]⟩, ⟨g13, 27, [.int .i64 Wd, .int .i64 (2 * Ht), .slice A72 ((xs ++ xs).length) k72]⟩]) := ⟨HE.out.to hb⟩
                    have HLS := HL0
                    replace HM := Hd.mk (HM.out.to hb)
                    have e73 : vs 73 = .bool true := hv 0 (by decide) rfl
                    simp only [putAll, List.foldl_cons, List.foldl_nil, Act.put, List.setIfInBounds_toArray, List.set_cons_succ, List.set_cons_zero, List.drop_succ_cons, List.drop_zero, e73]
                    clear hv hal hne hb HL0 HBW HLS e73
                    clear HM
                    go_upto_region 11 with fail
                    refine wp_region_vd 6 [74, 75, 76, 77, 78, 79] [0, 2, 3, 5] [] 84 [.int .i64 0, .int .i64 0] [isV (.pointer (some ⟨w.heap.size, 0, none⟩)), isV (.int .i64 Wd), isV (.int .i64 (2 * Wd)), isV (.pointer (some ⟨w.heap.size, 1, none⟩)), isV (.int .i64 Ht), isV (.agg #[.int .i64 (2 * Wd), .int .i64 Ht, .slice none 0 0])] (by rfl) alloc_Z ?_ ?_
                    · intro qi qh qA aa wx hb hs hd
                      match qi, qh, qA with
                      | 0, _, _ => exact .inl ⟨rfl, ⟨_, op_faU0 rfl (hs 3 rfl), rfl⟩⟩
                      | 1, _, _ => exact .inl ⟨rfl, op_ldI rfl rfl (hd 0 rfl) ((HE.out.to hb).cell 0 0 rfl rfl)⟩
                      | 2, _, _ => exact .inl ⟨rfl, ⟨_, op_mul (by unfold Fit; omega) rfl rfl (hd 1 rfl), rfl⟩⟩
                      | 3, _, _ => exact .inl ⟨rfl, ⟨_, op_faU1 rfl (hs 3 rfl), rfl⟩⟩
                      | 4, _, _ => exact .inl ⟨rfl, op_ldI rfl rfl (hd 3 rfl) ((HE.out.to hb).cell 0 1 rfl rfl)⟩
                      | 5, _, _ => exact .inl ⟨rfl, ⟨_, op_buT01 rfl (hd 2 rfl) (hd 4 rfl), rfl⟩⟩
                      | qi + 6, h, _ => omega
                    · intro vs X9 hb hv hal hne
                      have HL0 := Hd.mk (HE.out.lt)
                      have HBW := HB
                      replace HB := Hd.mk (bel_then HB.out hb)
                      replace HE : Hd (Env X9 [⟨w.heap.size, 24, [.int .i64 Wd, .int .i64 Ht, .slice (some ad) xs.length k]⟩, ⟨w.heap.size + 1, 26, [.int .i64 x, .int .i64 y, .int .i64 t, .bool f]⟩, ⟨g13, 27, [.int .i64 Wd, .int .i64 (2 * Ht), .slice A72 ((xs ++ xs).length) k72]⟩]) := ⟨HE.out.to hb⟩
                      have HLS := HL0
                      have e79 : vs 79 = .agg #[.int .i64 (2 * Wd), .int .i64 Ht, .slice none 0 0] := hv 5 (by decide) rfl
                      simp only [putAll, List.foldl_cons, List.foldl_nil, Act.put, List.setIfInBounds_toArray, List.set_cons_succ, List.set_cons_zero, List.drop_succ_cons, List.drop_zero, e79]
                      generalize vs 74 = s74
                      generalize vs 75 = s75
                      generalize vs 76 = s76
                      generalize vs 77 = s77
                      generalize vs 78 = s78
                      clear hv hal hne hb HL0 HBW HLS e79
                      refine wpList_st rfl rfl rfl rfl rfl (sto_T (HE.out.get 2 rfl)) ?_
                      have HE' : Env (putL X9 g13 0 [.int .i64 (2 * Wd), .int .i64 Ht, .slice none 0 0]) [⟨w.heap.size, 24, [.int .i64 Wd, .int .i64 Ht, .slice (some ad) xs.length k]⟩, ⟨w.heap.size + 1, 26, [.int .i64 x, .int .i64 y, .int .i64 t, .bool f]⟩, ⟨g13, 27, [.int .i64 (2 * Wd), .int .i64 Ht, .slice none 0 0]⟩] := HE.out.putF 2 rfl rfl
                      have HB' := putL_below (show w.heap.size ≤ g13 from G13.out) [.int .i64 (2 * Wd), .int .i64 Ht, .slice none 0 0] _ 0 HB.out
                      generalize putL X9 g13 0 [.int .i64 (2 * Wd), .int .i64 Ht, .slice none 0 0] = X10 at *
                      replace HE := Hd.mk HE'
                      replace HB := Hd.mk HB'
                      clear HE' HB'
                      go_upto_region 12 with fail
                      refine wp_region_vd 3 [80, 81, 82] [0, 2] [] 84 [.int .i64 0, .int .i64 0] [isV (.pointer (some ⟨w.heap.size, 1, none⟩)), isV (.int .i64 Ht), isV (.int .i64 0)] (by rfl) alloc_Z ?_ ?_
                      · intro qi qh qA aa wx hb hs hd
                        match qi, qh, qA with
                        | 0, _, _ => exact .inl ⟨rfl, ⟨_, op_faU1 rfl (hs 3 rfl), rfl⟩⟩
                        | 1, _, _ => exact .inl ⟨rfl, op_ldI rfl rfl (hd 0 rfl) ((HE.out.to hb).cell 0 1 rfl rfl)⟩
                        | 2, _, _ => exact .inl ⟨rfl, op_mv rfl rfl⟩
                        | qi + 3, h, _ => omega
                      · intro vs X11 hb hv hal hne
                        have HL0 := Hd.mk (HE.out.lt)
                        have HBW := HB
                        replace HB := Hd.mk (bel_then HB.out hb)
                        replace HE : Hd (Env X11 [⟨w.heap.size, 24, [.int .i64 Wd, .int .i64 Ht, .slice (some ad) xs.length k]⟩, ⟨w.heap.size + 1, 26, [.int .i64 x, .int .i64 y, .int .i64 t, .bool f]⟩, ⟨g13, 27, [.int .i64 (2 * Wd), .int .i64 Ht, .slice none 0 0]⟩]) := ⟨HE.out.to hb⟩
                        have HLS := HL0
                        have e81 : vs 81 = .int .i64 Ht := hv 1 (by decide) rfl
                        have e82 : vs 82 = .int .i64 0 := hv 2 (by decide) rfl
                        simp only [putAll, List.foldl_cons, List.foldl_nil, Act.put, List.setIfInBounds_toArray, List.set_cons_succ, List.set_cons_zero, List.drop_succ_cons, List.drop_zero, e81, e82]
                        generalize vs 80 = s80
                        clear hv hal hne hb HL0 HBW HLS e81 e82
                        obtain ⟨Wn, hWn⟩ : ∃ N : Nat, Wd = (N : Int) := ⟨Wd.toNat, by omega⟩
                        obtain ⟨Hn, hHn⟩ : ∃ N : Nat, Ht = (N : Int) := ⟨Ht.toNat, by omega⟩
                        have HWn := Hd.mk hWn
                        have HHn := Hd.mk hHn
                        have HLX : Hd (xs.length = Wn * Hn) := ⟨by have h9 := HMX.out; rw [hWn, hHn, Int.toNat_natCast, Int.toNat_natCast] at h9; exact h9⟩
                        clear hWn hHn
                        go_wp2_with fail
                        go_loopw [82] (fun sy wr => ∃ (yq : Nat) (A13 : Option Addr) (k13 : Nat), yq ≤ Hn ∧ sy = .int .i64 (yq : Int) ∧ (Env wr [⟨w.heap.size, 24, [.int .i64 Wd, .int .i64 Ht, .slice (some ad) xs.length k]⟩, ⟨w.heap.size + 1, 26, [.int .i64 x, .int .i64 y, .int .i64 t, .bool f]⟩, ⟨g13, 27, [.int .i64 (2 * Wd), .int .i64 Ht, .slice A13 ((dbl Wn xs yq).length) k13]⟩] ∧ OwnI w.heap.size wr (.slice A13 (dbl Wn xs yq).length k13) (dbl Wn xs yq) ∧ Below w.heap.size w wr)) (fun sy _ => Hn - (intOf sy).toNat)
                        case atStart => exact ⟨0, none, 0, by omega, rfl, ⟨HE.out, ⟨rfl, .inl ⟨rfl, rfl⟩⟩, HB.out⟩⟩
                        case round =>
                          obtain ⟨yq, A13, k13, hyn, rfl, ⟨he, ho, hb⟩⟩ := hrel
                          clear HB HE
                          have HB := Hd.mk hb
                          have HE : Hd (Env wr [⟨w.heap.size, 24, [.int .i64 Wd, .int .i64 Ht, .slice (some ad) xs.length k]⟩, ⟨w.heap.size + 1, 26, [.int .i64 x, .int .i64 y, .int .i64 t, .bool f]⟩, ⟨g13, 27, [.int .i64 (2 * Wd), .int .i64 Ht, .slice A13 ((dbl Wn xs yq).length) k13]⟩]) := ⟨he⟩
                          have HO := Hd.mk ho
                          clear he ho hb
                          have hWe := HWn.out
                          have hHe := HHn.out
                          by_cases hy : yq < Hn
                          · have hyH : ((yq : Nat) : Int) < Ht := by omega
                            have hyb := mul_b (a := (yq : Int)) (b := Wd) (A := 6) (B := 6) (by omega) (by omega)
                            have hyc := mul_b (a := (yq : Int) + 1) (b := Wd) (A := 6) (B := 6) (by omega) (by omega)
                            have HI1 : Hd ((yq : Int) * Wd = ((yq * Wn : Nat) : Int)) := ⟨by rw [HWn.out, Int.natCast_mul]⟩
                            have HI2 : Hd (((yq : Int) + 1) * Wd = (((yq + 1) * Wn : Nat) : Int)) := ⟨by rw [HWn.out, Int.natCast_mul]; rfl⟩
                            have HRL := Hd.mk (row2_length HLX.out hy)
                            have HSL2 : Hd (yq * Wn < (yq + 1) * Wn ∧ (yq + 1) * Wn ≤ xs.length ∧ (yq + 1) * Wn - yq * Wn = Wn) := ⟨by rw [HLX.out, Nat.succ_mul, Nat.mul_comm Wn Hn]; have h8 := Nat.mul_le_mul_right Wn (show yq + 1 ≤ Hn from hy); rw [Nat.succ_mul] at h8; omega⟩
                            clear hWe hHe
                            go_upto_region 14 with fail
                            refine wp_region_vd 1 [84] [0] [] 84 [.int .i64 0, .int .i64 0] [isV (.int .i64 (((yq : Nat) : Int)))] (by rfl) alloc_Z ?_ ?_
                            · intro qi qh qA aa wx hb hs hd
                              match qi, qh, qA with
                              | 0, _, _ => exact .inl ⟨rfl, op_mv rfl (hs 82 rfl)⟩
                              | qi + 1, h, _ => omega
                            · intro vs X1 hb hv hal hne
                              have HL0 := Hd.mk (HE.out.lt)
                              have HBW := HB
                              replace HB := Hd.mk (bel_then HB.out hb)
                              replace HE : Hd (Env X1 [⟨w.heap.size, 24, [.int .i64 Wd, .int .i64 Ht, .slice (some ad) xs.length k]⟩, ⟨w.heap.size + 1, 26, [.int .i64 x, .int .i64 y, .int .i64 t, .bool f]⟩, ⟨g13, 27, [.int .i64 (2 * Wd), .int .i64 Ht, .slice A13 ((dbl Wn xs yq).length) k13]⟩]) := ⟨HE.out.to hb⟩
                              have HLS := HL0
                              have HOL := Hd.mk HO.out.lt
                              replace HO := Hd.mk (HO.out.to hb)
                              have e84 : vs 84 = .int .i64 (((yq : Nat) : Int)) := hv 0 (by decide) rfl
                              simp only [putAll, List.foldl_cons, List.foldl_nil, Act.put, List.setIfInBounds_toArray, List.set_cons_succ, List.set_cons_zero, List.drop_succ_cons, List.drop_zero, e84]
                              clear hv hal hne hb HL0 HBW HLS e84 HOL
                              go_upto_region 15 with fail
                              refine wp_region_vd 12 [85, 86, 87, 88, 89, 90, 91, 92, 93, 94, 95, 96] [0, 2, 3, 5, 6, 7, 8, 10, 11] [] 84 [.int .i64 0, .int .i64 0] [isV (.pointer (some ⟨w.heap.size, 2, none⟩)), isV (.slice (some ad) xs.length k), isV (.int .i64 (((yq : Nat) : Int))), isV (.pointer (some ⟨w.heap.size, 0, none⟩)), isV (.int .i64 Wd), isV (.int .i64 (((yq * Wn : Nat) : Int))), isV (.int .i64 (((yq : Nat) : Int))), isV (.int .i64 ((((yq : Nat) : Int)) + 1)), isV (.pointer (some ⟨w.heap.size, 0, none⟩)), isV (.int .i64 Wd), isV (.int .i64 ((((yq + 1) * Wn : Nat) : Int))), isV (.slice (some (ad.add (yq * Wn))) ((row2 Wn xs yq).length) ((k - yq * Wn)))] (by rfl) alloc_Z ?_ ?_
                              · intro qi qh qA aa wx hb hs hd
                                match qi, qh, qA with
                                | 0, _, _ => exact .inl ⟨rfl, ⟨_, op_faU2 rfl (hs 3 rfl), rfl⟩⟩
                                | 1, _, _ => exact .inl ⟨rfl, op_ldS rfl rfl (hd 0 rfl) ((HE.out.to hb).cell 0 2 rfl rfl)⟩
                                | 2, _, _ => exact .inl ⟨rfl, op_mv rfl (hs 14 rfl)⟩
                                | 3, _, _ => exact .inl ⟨rfl, ⟨_, op_faU0 rfl (hs 3 rfl), rfl⟩⟩
                                | 4, _, _ => exact .inl ⟨rfl, op_ldI rfl rfl (hd 3 rfl) ((HE.out.to hb).cell 0 0 rfl rfl)⟩
                                | 5, _, _ => exact .inl ⟨rfl, pure_b (int_eq HI1.out) (⟨_, op_mul (by unfold Fit; omega) rfl (hd 2 rfl) (hd 4 rfl), rfl⟩)⟩
                                | 6, _, _ => exact .inl ⟨rfl, op_mv rfl (hs 14 rfl)⟩
                                | 7, _, _ => exact .inl ⟨rfl, ⟨_, op_add (by unfold Fit; omega) rfl (hd 6 rfl) rfl, rfl⟩⟩
                                | 8, _, _ => exact .inl ⟨rfl, ⟨_, op_faU0 rfl (hs 3 rfl), rfl⟩⟩
                                | 9, _, _ => exact .inl ⟨rfl, op_ldI rfl rfl (hd 8 rfl) ((HE.out.to hb).cell 0 0 rfl rfl)⟩
                                | 10, _, _ => exact .inl ⟨rfl, pure_b (int_eq HI2.out) (⟨_, op_mul (by unfold Fit; omega) rfl (hd 7 rfl) (hd 9 rfl), rfl⟩)⟩
                                | 11, _, _ => exact .inl ⟨rfl, ⟨_, op_slc2 (HSL2.out.2.2.trans HRL.out.symm) HSL2.out.1 HSL2.out.2.1 hlk rfl (hd 1 rfl) (hd 5 rfl) (hd 10 rfl), rfl⟩⟩
                                | qi + 12, h, _ => omega
                              · intro vs X2 hb hv hal hne
                                have HL0 := Hd.mk (HE.out.lt)
                                have HBW := HB
                                replace HB := Hd.mk (bel_then HB.out hb)
                                replace HE : Hd (Env X2 [⟨w.heap.size, 24, [.int .i64 Wd, .int .i64 Ht, .slice (some ad) xs.length k]⟩, ⟨w.heap.size + 1, 26, [.int .i64 x, .int .i64 y, .int .i64 t, .bool f]⟩, ⟨g13, 27, [.int .i64 (2 * Wd), .int .i64 Ht, .slice A13 ((dbl Wn xs yq).length) k13]⟩]) := ⟨HE.out.to hb⟩
                                have HLS := HL0
                                have HOL := Hd.mk HO.out.lt
                                replace HO := Hd.mk (HO.out.to hb)
                                have e96 : vs 96 = .slice (some (ad.add (yq * Wn))) ((row2 Wn xs yq).length) ((k - yq * Wn)) := hv 11 (by decide) rfl
                                simp only [putAll, List.foldl_cons, List.foldl_nil, Act.put, List.setIfInBounds_toArray, List.set_cons_succ, List.set_cons_zero, List.drop_succ_cons, List.drop_zero, e96]
                                generalize vs 85 = s85
                                generalize vs 86 = s86
                                generalize vs 87 = s87
                                generalize vs 88 = s88
                                generalize vs 89 = s89
                                generalize vs 90 = s90
                                generalize vs 91 = s91
                                generalize vs 92 = s92
                                generalize vs 93 = s93
                                generalize vs 94 = s94
                                generalize vs 95 = s95
                                clear hv hal hne hb HL0 HBW HLS e96 HOL
                                go_upto_region 16 with fail
                                refine wp_region_vd 3 [97, 98, 99] [0, 2] [] 84 [.int .i64 0, .int .i64 0] [isV (.pointer (some ⟨g13, 2, none⟩)), isV (.slice A13 ((dbl Wn xs yq).length) k13), isV (.slice (some (ad.add (yq * Wn))) ((row2 Wn xs yq).length) ((k - yq * Wn)))] (by rfl) alloc_Z ?_ ?_
                                · intro qi qh qA aa wx hb hs hd
                                  match qi, qh, qA with
                                  | 0, _, _ => exact .inl ⟨rfl, ⟨_, op_faT2 rfl (hs 13 rfl), rfl⟩⟩
                                  | 1, _, _ => exact .inl ⟨rfl, op_ldS rfl rfl (hd 0 rfl) ((HE.out.to hb).cell 2 2 rfl rfl)⟩
                                  | 2, _, _ => exact .inl ⟨rfl, op_mv rfl (hs 15 rfl)⟩
                                  | qi + 3, h, _ => omega
                                · intro vs X3 hb hv hal hne
                                  have HL0 := Hd.mk (HE.out.lt)
                                  have HBW := HB
                                  replace HB := Hd.mk (bel_then HB.out hb)
                                  replace HE : Hd (Env X3 [⟨w.heap.size, 24, [.int .i64 Wd, .int .i64 Ht, .slice (some ad) xs.length k]⟩, ⟨w.heap.size + 1, 26, [.int .i64 x, .int .i64 y, .int .i64 t, .bool f]⟩, ⟨g13, 27, [.int .i64 (2 * Wd), .int .i64 Ht, .slice A13 ((dbl Wn xs yq).length) k13]⟩]) := ⟨HE.out.to hb⟩
                                  have HLS := HL0
                                  have HOL := Hd.mk HO.out.lt
                                  replace HO := Hd.mk (HO.out.to hb)
                                  have e98 : vs 98 = .slice A13 ((dbl Wn xs yq).length) k13 := hv 1 (by decide) rfl
                                  have e99 : vs 99 = .slice (some (ad.add (yq * Wn))) ((row2 Wn xs yq).length) ((k - yq * Wn)) := hv 2 (by decide) rfl
                                  simp only [putAll, List.foldl_cons, List.foldl_nil, Act.put, List.setIfInBounds_toArray, List.set_cons_succ, List.set_cons_zero, List.drop_succ_cons, List.drop_zero, e98, e99]
                                  generalize vs 97 = s97
                                  clear hv hal hne hb HL0 HBW HLS e98 e99 HOL
                                  have HRR : Hd (RI w (some (ad.add (yq * Wn))) (row2 Wn xs yq)) := ⟨(ri_drop HRI.out (yq * Wn)).take Wn⟩
                                  obtain ⟨i0, hi0, hz0, hz1, hz2⟩ := info_parts Try.info_int
                                  have hdl := dbl_length HLX.out yq (by omega)
                                  have hdl2 : yq * (2 * Wn) ≤ 72 := Nat.le_trans (Nat.mul_le_mul (show yq ≤ 6 by have h9 := HHn.out; omega) (show 2 * Wn ≤ 12 by have h9 := HWn.out; omega)) (Nat.le_refl _)
                                  have hrl := HRL.out
                                  have hwn1 : 0 < Wn := by have h9 := HWn.out; omega
                                  have hwn6 : Wn ≤ 6 := by have h9 := HWn.out; omega
                                  refine wpList_append_lies _ rfl (.tmp 98) (.tmp 99) 22 rfl w.heap.size 3 i0 (.int .i64 0) 1 8 Try.underlying22 hi0 hz0 hz1 hz2 rfl (by decide) _ _ (ints (dbl Wn xs yq)) rfl HO.out (ad.add (yq * Wn)) (row2 Wn xs yq).length (k - yq * Wn) (ints (row2 Wn xs yq)) rfl (by rw [ints_length, Nat.mul_one]) (ri_news (HRR.out.to HB.out)) (ints_one _) (by omega) (by unfold maxLen; omega) (by omega) HB.out.size _ rfl ?_
                                  intro g100 k100 w1 hown1 hgr1 hat1 hlt1
                                  have HO1 : OwnI w.heap.size w1 (.slice (some ⟨g100, 0, none⟩) ((dbl Wn xs yq) ++ (row2 Wn xs yq)).length k100) (dbl Wn xs yq ++ (row2 Wn xs yq)) := by
                                    unfold OwnI
                                    rw [List.length_append, show ints (dbl Wn xs yq ++ (row2 Wn xs yq)) = ints (dbl Wn xs yq) ++ ints (row2 Wn xs yq) from by simp [ints]]
                                    exact hown1
                                  have HB1 := HB.out.grown hgr1 HB.out.size (fun z hz => (OwnI.lt HO.out z hz).1)
                                  have HE1 := env_app HE.out HO.out hgr1 rfl
                                  simp only [Act.put, List.setIfInBounds_toArray, List.set_cons_succ, List.set_cons_zero]
                                  rw [← List.length_append]
                                  replace HE := Hd.mk HE1
                                  replace HB := Hd.mk HB1
                                  replace HO := Hd.mk HO1
                                  clear HE1 HB1 HO1 hown1 hgr1 hat1 hlt1
                                  refine wpList_run rfl (op_move rfl rfl _) ?_
                                  simp only [Act.put, List.setIfInBounds_toArray, List.set_cons_succ, List.set_cons_zero]
                                  have hdl3 : (dbl Wn xs yq ++ (row2 Wn xs yq)).length ≤ 80 := by rw [List.length_append]; omega
                                  refine wpList_append_lies _ rfl (.tmp 100) (.tmp 101) 22 rfl w.heap.size 3 i0 (.int .i64 0) 1 8 Try.underlying22 hi0 hz0 hz1 hz2 rfl (by decide) _ _ (ints (dbl Wn xs yq ++ (row2 Wn xs yq))) rfl HO.out (ad.add (yq * Wn)) (row2 Wn xs yq).length (k - yq * Wn) (ints (row2 Wn xs yq)) rfl (by rw [ints_length, Nat.mul_one]) (ri_news (HRR.out.to HB.out)) (ints_one _) (by omega) (by unfold maxLen; omega) (by omega) HB.out.size _ rfl ?_
                                  intro g102 k102 w2 hown1 hgr1 hat1 hlt1
                                  have HO1 : OwnI w.heap.size w2 (.slice (some ⟨g102, 0, none⟩) (dbl Wn xs (yq + 1)).length k102) (dbl Wn xs (yq + 1)) := by
                                    unfold OwnI
                                    simp only [dbl]
                                    rw [List.length_append, show ints (dbl Wn xs yq ++ (row2 Wn xs yq) ++ (row2 Wn xs yq)) = ints (dbl Wn xs yq ++ (row2 Wn xs yq)) ++ ints (row2 Wn xs yq) from by simp [ints]]
                                    exact hown1
                                  have HB1 := HB.out.grown hgr1 HB.out.size (fun z hz => (OwnI.lt HO.out z hz).1)
                                  have HE1 := env_app HE.out HO.out hgr1 rfl
                                  simp only [Act.put, List.setIfInBounds_toArray, List.set_cons_succ, List.set_cons_zero]
                                  rw [← List.length_append, show (dbl Wn xs yq ++ (row2 Wn xs yq) ++ (row2 Wn xs yq)).length = (dbl Wn xs (yq + 1)).length from rfl]
                                  replace HE := Hd.mk HE1
                                  replace HB := Hd.mk HB1
                                  replace HO := Hd.mk HO1
                                  clear HE1 HB1 HO1 hown1 hgr1 hat1 hlt1
                                  refine wpList_run rfl (op_faT2 rfl rfl _) ?_
                                  simp only [Act.put, List.setIfInBounds_toArray, List.set_cons_succ, List.set_cons_zero, Nat.zero_add]
                                  refine wpList_st rfl rfl rfl rfl rfl (sto_S (HE.out.get 2 rfl) rfl) ?_
                                  have HE1 : Env (putL w2 g13 2 [.slice (some ⟨g102, 0, none⟩) (dbl Wn xs (yq + 1)).length k102]) [⟨w.heap.size, 24, [.int .i64 Wd, .int .i64 Ht, .slice (some ad) xs.length k]⟩, ⟨w.heap.size + 1, 26, [.int .i64 x, .int .i64 y, .int .i64 t, .bool f]⟩, ⟨g13, 27, [.int .i64 (2 * Wd), .int .i64 Ht, .slice (some ⟨g102, 0, none⟩) ((dbl Wn xs (yq + 1)).length) k102]⟩] := HE.out.putO 2 rfl
                                  have HB1 := putL_below (show w.heap.size ≤ g13 from G13.out) [.slice (some ⟨g102, 0, none⟩) (dbl Wn xs (yq + 1)).length k102] _ 2 HB.out
                                  have HO1 := HO.out.putT (o := 2) (vs := [.slice (some ⟨g102, 0, none⟩) (dbl Wn xs (yq + 1)).length k102]) (HE.out.get 2 rfl) (by decide)
                                  generalize putL w2 g13 2 [.slice (some ⟨g102, 0, none⟩) (dbl Wn xs (yq + 1)).length k102] = w3 at *
                                  replace HE := Hd.mk HE1
                                  replace HB := Hd.mk HB1
                                  replace HO := Hd.mk HO1
                                  clear HE1 HB1 HO1
                                  go_wp2_with fail
                                  go_roundw
                                  case rel => exact ⟨yq + 1, _, _, by omega, by go_num, ⟨HE.out, HO.out, HB.out⟩⟩
                                  case measure => simp [intOf]; omega
                          · have hye : yq = Hn := by omega
                            subst hye
                            have HM := Hd.mk (OwnI.ci HO.out)
                            clear HO
                            have HDL := Hd.mk (dbl_length HLX.out yq (Nat.le_refl _))
                            have hWe := HWn.out
                            have hHe := HHn.out
                            obtain ⟨sK, eK, hKC, hKA⟩ := Kind_any (W := 2 * Wd) (H := Ht) (ys := dbl Wn xs yq) (by omega) (by omega) (by rw [HDL.out, HWn.out, HHn.out, Int.natCast_mul, Int.mul_comm]; rfl) (dbl_bad (valid_bad HV.out) yq)
                            have HKC := Hd.mk hKC
                            have HKA := Hd.mk hKA
                            have HPT : Hd (colF (2 * Wd) Ht (dbl Wn xs yq) = colF Wd Ht xs) := ⟨by rw [HWn.out, HHn.out]; exact wide_pat (by omega) (by omega) HLX.out⟩
                            clear hKC hKA
                            clear hWe hHe
                            go_upto_region 18 with fail
                            refine wp_region_vd 5 [106, 107, 105, 108, 109] [2, 3, 4] [] 84 [.int .i64 0, .int .i64 0] [isV (.agg #[.int .i64 (2 * Wd), .int .i64 Ht, .slice A13 ((dbl Wn xs yq).length) k13]), isP (isV (sK)) (isV (.int .i64 eK)), isP (isV (sK)) (isV (.int .i64 eK)), isV (sK), isV (.int .i64 eK)] (by rfl) alloc_Z ?_ ?_
                            · intro qi qh qA aa wx hb hs hd
                              match qi, qh, qA with
                              | 0, _, _ => exact .inl ⟨rfl, op_ldT rfl rfl (hs 13 rfl) ((HE.out.to hb).get 2 rfl)⟩
                              | 1, _, _ => exact .inl ⟨rfl, op_call1 rfl rfl Try.call34 (HKA.out _ _ (rd_ex (xs := dbl Wn xs yq) (hd 0 rfl) (HM.out.to hb).1))⟩
                              | 2, _, _ => exact .inl ⟨rfl, op_mv rfl (hd 1 rfl)⟩
                              | 3, _, _ => exact .inl ⟨rfl, op_fst rfl (hd 2 rfl)⟩
                              | 4, _, _ => exact .inl ⟨rfl, op_snd rfl (hd 2 rfl)⟩
                              | qi + 5, h, _ => omega
                            · intro vs X1 hb hv hal hne
                              have HL0 := Hd.mk (HE.out.lt)
                              have HBW := HB
                              replace HB := Hd.mk (bel_then HB.out hb)
                              replace HE : Hd (Env X1 [⟨w.heap.size, 24, [.int .i64 Wd, .int .i64 Ht, .slice (some ad) xs.length k]⟩, ⟨w.heap.size + 1, 26, [.int .i64 x, .int .i64 y, .int .i64 t, .bool f]⟩, ⟨g13, 27, [.int .i64 (2 * Wd), .int .i64 Ht, .slice A13 ((dbl Wn xs yq).length) k13]⟩]) := ⟨HE.out.to hb⟩
                              have HLS := HL0
                              replace HM := Hd.mk (HM.out.to hb)
                              have e108 : vs 108 = sK := hv 3 (by decide) rfl
                              have e109 : vs 109 = .int .i64 eK := hv 4 (by decide) rfl
                              simp only [putAll, List.foldl_cons, List.foldl_nil, Act.put, List.setIfInBounds_toArray, List.set_cons_succ, List.set_cons_zero, List.drop_succ_cons, List.drop_zero, e108, e109]
                              generalize vs 106 = s106
                              generalize vs 107 = s107
                              generalize vs 105 = s105
                              clear hv hal hne hb HL0 HBW HLS e108 e109
                              rcases HKC.out with ⟨h0, hS, hw6, hh6⟩ | ⟨h0 | h0, _, hn6⟩
                              · have HE0 := Hd.mk h0
                                have HS0 := Hd.mk hS
                                clear h0 hS
                                go_upto_region 19 with fail
                                refine wp_region_vd 31 [110, 111, 112, 113, 114, 115, 116, 117, 118, 119, 120, 121, 122, 123, 124, 125, 126, 127, 128, 129, 130, 131, 132, 133, 134, 135, 136, 137, 138, 139, 140] [0, 1, 2, 3, 4, 5, 6, 7, 10, 11, 14, 15, 16, 17, 18, 20, 21, 22, 24, 25, 26, 27, 28, 30] [] 84 [.int .i64 0, .int .i64 0] [isV (.int .i64 eK), isV (.bool true), isV (.bool true), isV (sK), isV (knm (kindF (colF Wd Ht xs))), isV (.bool true), isV (.bool true), isV (.bool true), isV undef, isV undef, isV (.bool true), isV (.bool true), isV undef, isV undef, isV (.bool true), isV (.bool true), isV (.int .i64 eK), isV (.bool true), isV (.pointer (some ⟨g13, 0, none⟩)), isV (.int .i64 (2 * Wd)), isV (.bool true), isV (.bool true), isV (.pointer (some ⟨g13, 1, none⟩)), isV (.int .i64 Ht), isV (.bool true), isV (.bool true), isV (.bool true), isV (.bool true), isV (.bool true), isV (.bool true), isV (.bool true)] (by rfl) alloc_Z ?_ ?_
                                · intro qi qh qA aa wx hb hs hd
                                  match qi, qh, qA with
                                  | 0, _, _ => exact .inl ⟨rfl, op_mv rfl (hs 8 rfl)⟩
                                  | 1, _, _ => exact .inl ⟨rfl, pure_b (bool_eq (decide_eq_true HE0.out)) (⟨_, op_eqlE rfl (hd 0 rfl) rfl, rfl⟩)⟩
                                  | 2, _, _ => exact .inl ⟨rfl, op_mv rfl (hd 1 rfl)⟩
                                  | 3, _, _ => exact .inl ⟨⟨rfl, .inl (hd 2 rfl)⟩, op_mv rfl (hs 16 rfl)⟩
                                  | 4, _, _ => exact .inl ⟨⟨rfl, .inl (hd 2 rfl)⟩, op_mv rfl (hs 7 rfl)⟩
                                  | 5, _, _ => exact .inl ⟨⟨rfl, .inl (hd 2 rfl)⟩, ⟨_, op_eqlSS (v := knm (kindF (colF Wd Ht xs))) (knm_str _) rfl ((hd 3 rfl).trans (by rw [HS0.out, HPT.out])) (hd 4 rfl), rfl⟩⟩
                                  | 6, _, _ => exact .inl ⟨rfl, ⟨_, op_pickT rfl (hd 2 rfl) (hd 5 rfl), rfl⟩⟩
                                  | 7, _, _ => exact .inl ⟨rfl, op_mv rfl (hd 6 rfl)⟩
                                  | 8, _, _ => exact .inr ⟨⟨rfl, .inl (hd 7 rfl)⟩, rfl⟩
                                  | 9, _, _ => exact .inr ⟨⟨rfl, .inl (hd 7 rfl)⟩, rfl⟩
                                  | 10, _, _ => exact .inl ⟨rfl, ⟨_, op_pickT rfl (hd 7 rfl) rfl, rfl⟩⟩
                                  | 11, _, _ => exact .inl ⟨rfl, op_mv rfl (hd 10 rfl)⟩
                                  | 12, _, _ => exact .inr ⟨⟨rfl, .inl (hd 11 rfl)⟩, rfl⟩
                                  | 13, _, _ => exact .inr ⟨⟨rfl, .inl (hd 11 rfl)⟩, rfl⟩
                                  | 14, _, _ => exact .inl ⟨rfl, ⟨_, op_pickT rfl (hd 11 rfl) rfl, rfl⟩⟩
                                  | 15, _, _ => exact .inl ⟨rfl, op_mv rfl (hd 14 rfl)⟩
                                  | 16, _, _ => exact .inl ⟨⟨rfl, .inl (hd 15 rfl)⟩, op_mv rfl (hs 8 rfl)⟩
                                  | 17, _, _ => exact .inl ⟨⟨rfl, .inl (hd 15 rfl)⟩, pure_b (bool_eq (decide_eq_true HE0.out)) (⟨_, op_eqlE rfl (hd 16 rfl) rfl, rfl⟩)⟩
                                  | 18, _, _ => exact .inl ⟨⟨rfl, .inl (hd 15 rfl)⟩, ⟨_, op_faT0 rfl (hs 13 rfl), rfl⟩⟩
                                  | 19, _, _ => exact .inl ⟨⟨rfl, .inl (hd 15 rfl)⟩, op_ldI rfl rfl (hd 18 rfl) ((HE.out.to hb).cell 2 0 rfl rfl)⟩
                                  | 20, _, _ => exact .inl ⟨⟨rfl, .inl (hd 15 rfl)⟩, pure_b (bool_eq (decide_eq_true hw6)) (⟨_, op_leqI rfl (hd 19 rfl) rfl, rfl⟩)⟩
                                  | 21, _, _ => exact .inl ⟨⟨rfl, .inl (hd 15 rfl)⟩, op_mv rfl (hd 20 rfl)⟩
                                  | 22, _, _ => exact .inl ⟨⟨rfl, .inl (hd 21 rfl)⟩, ⟨_, op_faT1 rfl (hs 13 rfl), rfl⟩⟩
                                  | 23, _, _ => exact .inl ⟨⟨rfl, .inl (hd 21 rfl)⟩, op_ldI rfl rfl (hd 22 rfl) ((HE.out.to hb).cell 2 1 rfl rfl)⟩
                                  | 24, _, _ => exact .inl ⟨⟨rfl, .inl (hd 21 rfl)⟩, pure_b (bool_eq (decide_eq_true hh6)) (⟨_, op_leqI rfl (hd 23 rfl) rfl, rfl⟩)⟩
                                  | 25, _, _ => exact .inl ⟨⟨rfl, .inl (hd 15 rfl)⟩, ⟨_, op_pickT rfl (hd 21 rfl) (hd 24 rfl), rfl⟩⟩
                                  | 26, _, _ => exact .inl ⟨⟨rfl, .inl (hd 15 rfl)⟩, pure_b (bool_eq rfl) (⟨_, op_eqlB rfl (hd 17 rfl) (hd 25 rfl), rfl⟩)⟩
                                  | 27, _, _ => exact .inl ⟨rfl, ⟨_, op_pickT rfl (hd 15 rfl) (hd 26 rfl), rfl⟩⟩
                                  | 28, _, _ => exact .inl ⟨rfl, op_mv rfl (hd 27 rfl)⟩
                                  | 29, _, _ => exact .inl ⟨⟨rfl, .inl (hd 28 rfl)⟩, op_call0 rfl rfl Try.call18 (awake_got _)⟩
                                  | 30, _, _ => exact .inl ⟨rfl, ⟨_, op_pickT rfl (hd 28 rfl) (hd 29 rfl), rfl⟩⟩
                                  | qi + 31, h, _ => omega
                                · intro vs X2 hb hv hal hne
                                  have HL0 := Hd.mk (HE.out.lt)
                                  have HBW := HB
                                  replace HB := Hd.mk (bel_then HB.out hb)
                                  replace HE : Hd (Env X2 [⟨w.heap.size, 24, [.int .i64 Wd, .int .i64 Ht, .slice (some ad) xs.length k]⟩, ⟨w.heap.size + 1, 26, [.int .i64 x, .int .i64 y, .int .i64 t, .bool f]⟩, ⟨g13, 27, [.int .i64 (2 * Wd), .int .i64 Ht, .slice A13 ((dbl Wn xs yq).length) k13]⟩]) := ⟨HE.out.to hb⟩
                                  have HLS := HL0
                                  replace HM := Hd.mk (HM.out.to hb)
                                  have e140 : vs 140 = .bool true := hv 30 (by decide) rfl
                                  simp only [putAll, List.foldl_cons, List.foldl_nil, Act.put, List.setIfInBounds_toArray, List.set_cons_succ, List.set_cons_zero, List.drop_succ_cons, List.drop_zero, e140]
                                  generalize vs 110 = s110
                                  generalize vs 111 = s111
                                  generalize vs 112 = s112
                                  generalize vs 113 = s113
                                  generalize vs 114 = s114
                                  generalize vs 115 = s115
                                  generalize vs 116 = s116
                                  generalize vs 117 = s117
                                  generalize vs 118 = s118
                                  generalize vs 119 = s119
                                  generalize vs 120 = s120
                                  generalize vs 121 = s121
                                  generalize vs 122 = s122
                                  generalize vs 123 = s123
                                  generalize vs 124 = s124
                                  generalize vs 125 = s125
                                  generalize vs 126 = s126
                                  generalize vs 127 = s127
                                  generalize vs 128 = s128
                                  generalize vs 129 = s129
                                  generalize vs 130 = s130
                                  generalize vs 131 = s131
                                  generalize vs 132 = s132
                                  generalize vs 133 = s133
                                  generalize vs 134 = s134
                                  generalize vs 135 = s135
                                  generalize vs 136 = s136
                                  generalize vs 137 = s137
                                  generalize vs 138 = s138
                                  generalize vs 139 = s139
                                  clear hv hal hne hb HL0 HBW HLS e140
                                  go_wp2_with fail
                                  go_ret
                                  exact ⟨_, rfl, HB.out, rfl⟩
                              · have HE0 := Hd.mk h0
                                clear h0
                                by_cases hw6 : (2 * Wd) ≤ 6
                                · skip
                                  go_upto_region 19 with fail
                                  refine wp_region_vd 31 [110, 111, 112, 113, 114, 115, 116, 117, 118, 119, 120, 121, 122, 123, 124, 125, 126, 127, 128, 129, 130, 131, 132, 133, 134, 135, 136, 137, 138, 139, 140] [0, 1, 2, 6, 7, 8, 9, 10, 11, 14, 15, 16, 17, 18, 20, 21, 22, 24, 25, 26, 27, 28, 30] [] 84 [.int .i64 0, .int .i64 0] [isV (.int .i64 eK), isV (.bool false), isV (.bool false), isV undef, isV undef, isV undef, isV (.bool false), isV (.bool false), isV (.int .i64 eK), isV (.bool true), isV (.bool true), isV (.bool true), isV undef, isV undef, isV (.bool true), isV (.bool true), isV (.int .i64 eK), isV (.bool false), isV (.pointer (some ⟨g13, 0, none⟩)), isV (.int .i64 (2 * Wd)), isV (.bool true), isV (.bool true), isV (.pointer (some ⟨g13, 1, none⟩)), isV (.int .i64 Ht), isV (.bool false), isV (.bool false), isV (.bool true), isV (.bool true), isV (.bool true), isV (.bool true), isV (.bool true)] (by rfl) alloc_Z ?_ ?_
                                  · intro qi qh qA aa wx hb hs hd
                                    match qi, qh, qA with
                                    | 0, _, _ => exact .inl ⟨rfl, op_mv rfl (hs 8 rfl)⟩
                                    | 1, _, _ => exact .inl ⟨rfl, pure_b (bool_eq (decide_eq_false (by have h9 := HE0.out; omega))) (⟨_, op_eqlE rfl (hd 0 rfl) rfl, rfl⟩)⟩
                                    | 2, _, _ => exact .inl ⟨rfl, op_mv rfl (hd 1 rfl)⟩
                                    | 3, _, _ => exact .inr ⟨⟨rfl, .inl (hd 2 rfl)⟩, rfl⟩
                                    | 4, _, _ => exact .inr ⟨⟨rfl, .inl (hd 2 rfl)⟩, rfl⟩
                                    | 5, _, _ => exact .inr ⟨⟨rfl, .inl (hd 2 rfl)⟩, rfl⟩
                                    | 6, _, _ => exact .inl ⟨rfl, ⟨_, op_pickF rfl (hd 2 rfl) rfl, rfl⟩⟩
                                    | 7, _, _ => exact .inl ⟨rfl, op_mv rfl (hd 6 rfl)⟩
                                    | 8, _, _ => exact .inl ⟨⟨rfl, .inl (hd 7 rfl)⟩, op_mv rfl (hs 8 rfl)⟩
                                    | 9, _, _ => exact .inl ⟨⟨rfl, .inl (hd 7 rfl)⟩, pure_b (bool_eq (decide_eq_true (by have h9 := HE0.out; omega))) (⟨_, op_eqlE rfl (hd 8 rfl) rfl, rfl⟩)⟩
                                    | 10, _, _ => exact .inl ⟨rfl, ⟨_, op_pickF rfl (hd 7 rfl) (hd 9 rfl), rfl⟩⟩
                                    | 11, _, _ => exact .inl ⟨rfl, op_mv rfl (hd 10 rfl)⟩
                                    | 12, _, _ => exact .inr ⟨⟨rfl, .inl (hd 11 rfl)⟩, rfl⟩
                                    | 13, _, _ => exact .inr ⟨⟨rfl, .inl (hd 11 rfl)⟩, rfl⟩
                                    | 14, _, _ => exact .inl ⟨rfl, ⟨_, op_pickT rfl (hd 11 rfl) rfl, rfl⟩⟩
                                    | 15, _, _ => exact .inl ⟨rfl, op_mv rfl (hd 14 rfl)⟩
                                    | 16, _, _ => exact .inl ⟨⟨rfl, .inl (hd 15 rfl)⟩, op_mv rfl (hs 8 rfl)⟩
                                    | 17, _, _ => exact .inl ⟨⟨rfl, .inl (hd 15 rfl)⟩, pure_b (bool_eq (decide_eq_false (by have h9 := HE0.out; omega))) (⟨_, op_eqlE rfl (hd 16 rfl) rfl, rfl⟩)⟩
                                    | 18, _, _ => exact .inl ⟨⟨rfl, .inl (hd 15 rfl)⟩, ⟨_, op_faT0 rfl (hs 13 rfl), rfl⟩⟩
                                    | 19, _, _ => exact .inl ⟨⟨rfl, .inl (hd 15 rfl)⟩, op_ldI rfl rfl (hd 18 rfl) ((HE.out.to hb).cell 2 0 rfl rfl)⟩
                                    | 20, _, _ => exact .inl ⟨⟨rfl, .inl (hd 15 rfl)⟩, pure_b (bool_eq (decide_eq_true hw6)) (⟨_, op_leqI rfl (hd 19 rfl) rfl, rfl⟩)⟩
                                    | 21, _, _ => exact .inl ⟨⟨rfl, .inl (hd 15 rfl)⟩, op_mv rfl (hd 20 rfl)⟩
                                    | 22, _, _ => exact .inl ⟨⟨rfl, .inl (hd 21 rfl)⟩, ⟨_, op_faT1 rfl (hs 13 rfl), rfl⟩⟩
                                    | 23, _, _ => exact .inl ⟨⟨rfl, .inl (hd 21 rfl)⟩, op_ldI rfl rfl (hd 22 rfl) ((HE.out.to hb).cell 2 1 rfl rfl)⟩
                                    | 24, _, _ => exact .inl ⟨⟨rfl, .inl (hd 21 rfl)⟩, pure_b (bool_eq (decide_eq_false (fun h9 => hn6 ⟨hw6, h9⟩))) (⟨_, op_leqI rfl (hd 23 rfl) rfl, rfl⟩)⟩
                                    | 25, _, _ => exact .inl ⟨⟨rfl, .inl (hd 15 rfl)⟩, ⟨_, op_pickT rfl (hd 21 rfl) (hd 24 rfl), rfl⟩⟩
                                    | 26, _, _ => exact .inl ⟨⟨rfl, .inl (hd 15 rfl)⟩, pure_b (bool_eq rfl) (⟨_, op_eqlB rfl (hd 17 rfl) (hd 25 rfl), rfl⟩)⟩
                                    | 27, _, _ => exact .inl ⟨rfl, ⟨_, op_pickT rfl (hd 15 rfl) (hd 26 rfl), rfl⟩⟩
                                    | 28, _, _ => exact .inl ⟨rfl, op_mv rfl (hd 27 rfl)⟩
                                    | 29, _, _ => exact .inl ⟨⟨rfl, .inl (hd 28 rfl)⟩, op_call0 rfl rfl Try.call18 (awake_got _)⟩
                                    | 30, _, _ => exact .inl ⟨rfl, ⟨_, op_pickT rfl (hd 28 rfl) (hd 29 rfl), rfl⟩⟩
                                    | qi + 31, h, _ => omega
                                  · intro vs X2 hb hv hal hne
                                    have HL0 := Hd.mk (HE.out.lt)
                                    have HBW := HB
                                    replace HB := Hd.mk (bel_then HB.out hb)
                                    replace HE : Hd (Env X2 [⟨w.heap.size, 24, [.int .i64 Wd, .int .i64 Ht, .slice (some ad) xs.length k]⟩, ⟨w.heap.size + 1, 26, [.int .i64 x, .int .i64 y, .int .i64 t, .bool f]⟩, ⟨g13, 27, [.int .i64 (2 * Wd), .int .i64 Ht, .slice A13 ((dbl Wn xs yq).length) k13]⟩]) := ⟨HE.out.to hb⟩
                                    have HLS := HL0
                                    replace HM := Hd.mk (HM.out.to hb)
                                    have e140 : vs 140 = .bool true := hv 30 (by decide) rfl
                                    simp only [putAll, List.foldl_cons, List.foldl_nil, Act.put, List.setIfInBounds_toArray, List.set_cons_succ, List.set_cons_zero, List.drop_succ_cons, List.drop_zero, e140]
                                    generalize vs 110 = s110
                                    generalize vs 111 = s111
                                    generalize vs 112 = s112
                                    generalize vs 113 = s113
                                    generalize vs 114 = s114
                                    generalize vs 115 = s115
                                    generalize vs 116 = s116
                                    generalize vs 117 = s117
                                    generalize vs 118 = s118
                                    generalize vs 119 = s119
                                    generalize vs 120 = s120
                                    generalize vs 121 = s121
                                    generalize vs 122 = s122
                                    generalize vs 123 = s123
                                    generalize vs 124 = s124
                                    generalize vs 125 = s125
                                    generalize vs 126 = s126
                                    generalize vs 127 = s127
                                    generalize vs 128 = s128
                                    generalize vs 129 = s129
                                    generalize vs 130 = s130
                                    generalize vs 131 = s131
                                    generalize vs 132 = s132
                                    generalize vs 133 = s133
                                    generalize vs 134 = s134
                                    generalize vs 135 = s135
                                    generalize vs 136 = s136
                                    generalize vs 137 = s137
                                    generalize vs 138 = s138
                                    generalize vs 139 = s139
                                    clear hv hal hne hb HL0 HBW HLS e140
                                    go_wp2_with fail
                                    go_ret
                                    exact ⟨_, rfl, HB.out, rfl⟩
                                · skip
                                  go_upto_region 19 with fail
                                  refine wp_region_vd 31 [110, 111, 112, 113, 114, 115, 116, 117, 118, 119, 120, 121, 122, 123, 124, 125, 126, 127, 128, 129, 130, 131, 132, 133, 134, 135, 136, 137, 138, 139, 140] [0, 1, 2, 6, 7, 8, 9, 10, 11, 14, 15, 16, 17, 18, 20, 21, 25, 26, 27, 28, 30] [] 84 [.int .i64 0, .int .i64 0] [isV (.int .i64 eK), isV (.bool false), isV (.bool false), isV undef, isV undef, isV undef, isV (.bool false), isV (.bool false), isV (.int .i64 eK), isV (.bool true), isV (.bool true), isV (.bool true), isV undef, isV undef, isV (.bool true), isV (.bool true), isV (.int .i64 eK), isV (.bool false), isV (.pointer (some ⟨g13, 0, none⟩)), isV (.int .i64 (2 * Wd)), isV (.bool false), isV (.bool false), isV undef, isV undef, isV undef, isV (.bool false), isV (.bool true), isV (.bool true), isV (.bool true), isV (.bool true), isV (.bool true)] (by rfl) alloc_Z ?_ ?_
                                  · intro qi qh qA aa wx hb hs hd
                                    match qi, qh, qA with
                                    | 0, _, _ => exact .inl ⟨rfl, op_mv rfl (hs 8 rfl)⟩
                                    | 1, _, _ => exact .inl ⟨rfl, pure_b (bool_eq (decide_eq_false (by have h9 := HE0.out; omega))) (⟨_, op_eqlE rfl (hd 0 rfl) rfl, rfl⟩)⟩
                                    | 2, _, _ => exact .inl ⟨rfl, op_mv rfl (hd 1 rfl)⟩
                                    | 3, _, _ => exact .inr ⟨⟨rfl, .inl (hd 2 rfl)⟩, rfl⟩
                                    | 4, _, _ => exact .inr ⟨⟨rfl, .inl (hd 2 rfl)⟩, rfl⟩
                                    | 5, _, _ => exact .inr ⟨⟨rfl, .inl (hd 2 rfl)⟩, rfl⟩
                                    | 6, _, _ => exact .inl ⟨rfl, ⟨_, op_pickF rfl (hd 2 rfl) rfl, rfl⟩⟩
                                    | 7, _, _ => exact .inl ⟨rfl, op_mv rfl (hd 6 rfl)⟩
                                    | 8, _, _ => exact .inl ⟨⟨rfl, .inl (hd 7 rfl)⟩, op_mv rfl (hs 8 rfl)⟩
                                    | 9, _, _ => exact .inl ⟨⟨rfl, .inl (hd 7 rfl)⟩, pure_b (bool_eq (decide_eq_true (by have h9 := HE0.out; omega))) (⟨_, op_eqlE rfl (hd 8 rfl) rfl, rfl⟩)⟩
                                    | 10, _, _ => exact .inl ⟨rfl, ⟨_, op_pickF rfl (hd 7 rfl) (hd 9 rfl), rfl⟩⟩
                                    | 11, _, _ => exact .inl ⟨rfl, op_mv rfl (hd 10 rfl)⟩
                                    | 12, _, _ => exact .inr ⟨⟨rfl, .inl (hd 11 rfl)⟩, rfl⟩
                                    | 13, _, _ => exact .inr ⟨⟨rfl, .inl (hd 11 rfl)⟩, rfl⟩
                                    | 14, _, _ => exact .inl ⟨rfl, ⟨_, op_pickT rfl (hd 11 rfl) rfl, rfl⟩⟩
                                    | 15, _, _ => exact .inl ⟨rfl, op_mv rfl (hd 14 rfl)⟩
                                    | 16, _, _ => exact .inl ⟨⟨rfl, .inl (hd 15 rfl)⟩, op_mv rfl (hs 8 rfl)⟩
                                    | 17, _, _ => exact .inl ⟨⟨rfl, .inl (hd 15 rfl)⟩, pure_b (bool_eq (decide_eq_false (by have h9 := HE0.out; omega))) (⟨_, op_eqlE rfl (hd 16 rfl) rfl, rfl⟩)⟩
                                    | 18, _, _ => exact .inl ⟨⟨rfl, .inl (hd 15 rfl)⟩, ⟨_, op_faT0 rfl (hs 13 rfl), rfl⟩⟩
                                    | 19, _, _ => exact .inl ⟨⟨rfl, .inl (hd 15 rfl)⟩, op_ldI rfl rfl (hd 18 rfl) ((HE.out.to hb).cell 2 0 rfl rfl)⟩
                                    | 20, _, _ => exact .inl ⟨⟨rfl, .inl (hd 15 rfl)⟩, pure_b (bool_eq (decide_eq_false hw6)) (⟨_, op_leqI rfl (hd 19 rfl) rfl, rfl⟩)⟩
                                    | 21, _, _ => exact .inl ⟨⟨rfl, .inl (hd 15 rfl)⟩, op_mv rfl (hd 20 rfl)⟩
                                    | 22, _, _ => exact .inr ⟨⟨rfl, .inl (hd 21 rfl)⟩, rfl⟩
                                    | 23, _, _ => exact .inr ⟨⟨rfl, .inl (hd 21 rfl)⟩, rfl⟩
                                    | 24, _, _ => exact .inr ⟨⟨rfl, .inl (hd 21 rfl)⟩, rfl⟩
                                    | 25, _, _ => exact .inl ⟨⟨rfl, .inl (hd 15 rfl)⟩, ⟨_, op_pickF rfl (hd 21 rfl) rfl, rfl⟩⟩
                                    | 26, _, _ => exact .inl ⟨⟨rfl, .inl (hd 15 rfl)⟩, pure_b (bool_eq rfl) (⟨_, op_eqlB rfl (hd 17 rfl) (hd 25 rfl), rfl⟩)⟩
                                    | 27, _, _ => exact .inl ⟨rfl, ⟨_, op_pickT rfl (hd 15 rfl) (hd 26 rfl), rfl⟩⟩
                                    | 28, _, _ => exact .inl ⟨rfl, op_mv rfl (hd 27 rfl)⟩
                                    | 29, _, _ => exact .inl ⟨⟨rfl, .inl (hd 28 rfl)⟩, op_call0 rfl rfl Try.call18 (awake_got _)⟩
                                    | 30, _, _ => exact .inl ⟨rfl, ⟨_, op_pickT rfl (hd 28 rfl) (hd 29 rfl), rfl⟩⟩
                                    | qi + 31, h, _ => omega
                                  · intro vs X2 hb hv hal hne
                                    have HL0 := Hd.mk (HE.out.lt)
                                    have HBW := HB
                                    replace HB := Hd.mk (bel_then HB.out hb)
                                    replace HE : Hd (Env X2 [⟨w.heap.size, 24, [.int .i64 Wd, .int .i64 Ht, .slice (some ad) xs.length k]⟩, ⟨w.heap.size + 1, 26, [.int .i64 x, .int .i64 y, .int .i64 t, .bool f]⟩, ⟨g13, 27, [.int .i64 (2 * Wd), .int .i64 Ht, .slice A13 ((dbl Wn xs yq).length) k13]⟩]) := ⟨HE.out.to hb⟩
                                    have HLS := HL0
                                    replace HM := Hd.mk (HM.out.to hb)
                                    have e140 : vs 140 = .bool true := hv 30 (by decide) rfl
                                    simp only [putAll, List.foldl_cons, List.foldl_nil, Act.put, List.setIfInBounds_toArray, List.set_cons_succ, List.set_cons_zero, List.drop_succ_cons, List.drop_zero, e140]
                                    generalize vs 110 = s110
                                    generalize vs 111 = s111
                                    generalize vs 112 = s112
                                    generalize vs 113 = s113
                                    generalize vs 114 = s114
                                    generalize vs 115 = s115
                                    generalize vs 116 = s116
                                    generalize vs 117 = s117
                                    generalize vs 118 = s118
                                    generalize vs 119 = s119
                                    generalize vs 120 = s120
                                    generalize vs 121 = s121
                                    generalize vs 122 = s122
                                    generalize vs 123 = s123
                                    generalize vs 124 = s124
                                    generalize vs 125 = s125
                                    generalize vs 126 = s126
                                    generalize vs 127 = s127
                                    generalize vs 128 = s128
                                    generalize vs 129 = s129
                                    generalize vs 130 = s130
                                    generalize vs 131 = s131
                                    generalize vs 132 = s132
                                    generalize vs 133 = s133
                                    generalize vs 134 = s134
                                    generalize vs 135 = s135
                                    generalize vs 136 = s136
                                    generalize vs 137 = s137
                                    generalize vs 138 = s138
                                    generalize vs 139 = s139
                                    clear hv hal hne hb HL0 HBW HLS e140
                                    go_wp2_with fail
                                    go_ret
                                    exact ⟨_, rfl, HB.out, rfl⟩
                              · have HE0 := Hd.mk h0
                                clear h0
                                by_cases hw6 : (2 * Wd) ≤ 6
                                · skip
                                  go_upto_region 19 with fail
                                  refine wp_region_vd 31 [110, 111, 112, 113, 114, 115, 116, 117, 118, 119, 120, 121, 122, 123, 124, 125, 126, 127, 128, 129, 130, 131, 132, 133, 134, 135, 136, 137, 138, 139, 140] [0, 1, 2, 6, 7, 8, 9, 10, 11, 12, 13, 14, 15, 16, 17, 18, 20, 21, 22, 24, 25, 26, 27, 28, 30] [] 84 [.int .i64 0, .int .i64 0] [isV (.int .i64 eK), isV (.bool false), isV (.bool false), isV undef, isV undef, isV undef, isV (.bool false), isV (.bool false), isV (.int .i64 eK), isV (.bool false), isV (.bool false), isV (.bool false), isV (.int .i64 eK), isV (.bool true), isV (.bool true), isV (.bool true), isV (.int .i64 eK), isV (.bool false), isV (.pointer (some ⟨g13, 0, none⟩)), isV (.int .i64 (2 * Wd)), isV (.bool true), isV (.bool true), isV (.pointer (some ⟨g13, 1, none⟩)), isV (.int .i64 Ht), isV (.bool false), isV (.bool false), isV (.bool true), isV (.bool true), isV (.bool true), isV (.bool true), isV (.bool true)] (by rfl) alloc_Z ?_ ?_
                                  · intro qi qh qA aa wx hb hs hd
                                    match qi, qh, qA with
                                    | 0, _, _ => exact .inl ⟨rfl, op_mv rfl (hs 8 rfl)⟩
                                    | 1, _, _ => exact .inl ⟨rfl, pure_b (bool_eq (decide_eq_false (by have h9 := HE0.out; omega))) (⟨_, op_eqlE rfl (hd 0 rfl) rfl, rfl⟩)⟩
                                    | 2, _, _ => exact .inl ⟨rfl, op_mv rfl (hd 1 rfl)⟩
                                    | 3, _, _ => exact .inr ⟨⟨rfl, .inl (hd 2 rfl)⟩, rfl⟩
                                    | 4, _, _ => exact .inr ⟨⟨rfl, .inl (hd 2 rfl)⟩, rfl⟩
                                    | 5, _, _ => exact .inr ⟨⟨rfl, .inl (hd 2 rfl)⟩, rfl⟩
                                    | 6, _, _ => exact .inl ⟨rfl, ⟨_, op_pickF rfl (hd 2 rfl) rfl, rfl⟩⟩
                                    | 7, _, _ => exact .inl ⟨rfl, op_mv rfl (hd 6 rfl)⟩
                                    | 8, _, _ => exact .inl ⟨⟨rfl, .inl (hd 7 rfl)⟩, op_mv rfl (hs 8 rfl)⟩
                                    | 9, _, _ => exact .inl ⟨⟨rfl, .inl (hd 7 rfl)⟩, pure_b (bool_eq (decide_eq_false (by have h9 := HE0.out; omega))) (⟨_, op_eqlE rfl (hd 8 rfl) rfl, rfl⟩)⟩
                                    | 10, _, _ => exact .inl ⟨rfl, ⟨_, op_pickF rfl (hd 7 rfl) (hd 9 rfl), rfl⟩⟩
                                    | 11, _, _ => exact .inl ⟨rfl, op_mv rfl (hd 10 rfl)⟩
                                    | 12, _, _ => exact .inl ⟨⟨rfl, .inl (hd 11 rfl)⟩, op_mv rfl (hs 8 rfl)⟩
                                    | 13, _, _ => exact .inl ⟨⟨rfl, .inl (hd 11 rfl)⟩, pure_b (bool_eq (decide_eq_true HE0.out)) (⟨_, op_eqlE rfl (hd 12 rfl) rfl, rfl⟩)⟩
                                    | 14, _, _ => exact .inl ⟨rfl, ⟨_, op_pickF rfl (hd 11 rfl) (hd 13 rfl), rfl⟩⟩
                                    | 15, _, _ => exact .inl ⟨rfl, op_mv rfl (hd 14 rfl)⟩
                                    | 16, _, _ => exact .inl ⟨⟨rfl, .inl (hd 15 rfl)⟩, op_mv rfl (hs 8 rfl)⟩
                                    | 17, _, _ => exact .inl ⟨⟨rfl, .inl (hd 15 rfl)⟩, pure_b (bool_eq (decide_eq_false (by have h9 := HE0.out; omega))) (⟨_, op_eqlE rfl (hd 16 rfl) rfl, rfl⟩)⟩
                                    | 18, _, _ => exact .inl ⟨⟨rfl, .inl (hd 15 rfl)⟩, ⟨_, op_faT0 rfl (hs 13 rfl), rfl⟩⟩
                                    | 19, _, _ => exact .inl ⟨⟨rfl, .inl (hd 15 rfl)⟩, op_ldI rfl rfl (hd 18 rfl) ((HE.out.to hb).cell 2 0 rfl rfl)⟩
                                    | 20, _, _ => exact .inl ⟨⟨rfl, .inl (hd 15 rfl)⟩, pure_b (bool_eq (decide_eq_true hw6)) (⟨_, op_leqI rfl (hd 19 rfl) rfl, rfl⟩)⟩
                                    | 21, _, _ => exact .inl ⟨⟨rfl, .inl (hd 15 rfl)⟩, op_mv rfl (hd 20 rfl)⟩
                                    | 22, _, _ => exact .inl ⟨⟨rfl, .inl (hd 21 rfl)⟩, ⟨_, op_faT1 rfl (hs 13 rfl), rfl⟩⟩
                                    | 23, _, _ => exact .inl ⟨⟨rfl, .inl (hd 21 rfl)⟩, op_ldI rfl rfl (hd 22 rfl) ((HE.out.to hb).cell 2 1 rfl rfl)⟩
                                    | 24, _, _ => exact .inl ⟨⟨rfl, .inl (hd 21 rfl)⟩, pure_b (bool_eq (decide_eq_false (fun h9 => hn6 ⟨hw6, h9⟩))) (⟨_, op_leqI rfl (hd 23 rfl) rfl, rfl⟩)⟩
                                    | 25, _, _ => exact .inl ⟨⟨rfl, .inl (hd 15 rfl)⟩, ⟨_, op_pickT rfl (hd 21 rfl) (hd 24 rfl), rfl⟩⟩
                                    | 26, _, _ => exact .inl ⟨⟨rfl, .inl (hd 15 rfl)⟩, pure_b (bool_eq rfl) (⟨_, op_eqlB rfl (hd 17 rfl) (hd 25 rfl), rfl⟩)⟩
                                    | 27, _, _ => exact .inl ⟨rfl, ⟨_, op_pickT rfl (hd 15 rfl) (hd 26 rfl), rfl⟩⟩
                                    | 28, _, _ => exact .inl ⟨rfl, op_mv rfl (hd 27 rfl)⟩
                                    | 29, _, _ => exact .inl ⟨⟨rfl, .inl (hd 28 rfl)⟩, op_call0 rfl rfl Try.call18 (awake_got _)⟩
                                    | 30, _, _ => exact .inl ⟨rfl, ⟨_, op_pickT rfl (hd 28 rfl) (hd 29 rfl), rfl⟩⟩
                                    | qi + 31, h, _ => omega
                                  · intro vs X2 hb hv hal hne
                                    have HL0 := Hd.mk (HE.out.lt)
                                    have HBW := HB
                                    replace HB := Hd.mk (bel_then HB.out hb)
                                    replace HE : Hd (Env X2 [⟨w.heap.size, 24, [.int .i64 Wd, .int .i64 Ht, .slice (some ad) xs.length k]⟩, ⟨w.heap.size + 1, 26, [.int .i64 x, .int .i64 y, .int .i64 t, .bool f]⟩, ⟨g13, 27, [.int .i64 (2 * Wd), .int .i64 Ht, .slice A13 ((dbl Wn xs yq).length) k13]⟩]) := ⟨HE.out.to hb⟩
                                    have HLS := HL0
                                    replace HM := Hd.mk (HM.out.to hb)
                                    have e140 : vs 140 = .bool true := hv 30 (by decide) rfl
                                    simp only [putAll, List.foldl_cons, List.foldl_nil, Act.put, List.setIfInBounds_toArray, List.set_cons_succ, List.set_cons_zero, List.drop_succ_cons, List.drop_zero, e140]
                                    generalize vs 110 = s110
                                    generalize vs 111 = s111
                                    generalize vs 112 = s112
                                    generalize vs 113 = s113
                                    generalize vs 114 = s114
                                    generalize vs 115 = s115
                                    generalize vs 116 = s116
                                    generalize vs 117 = s117
                                    generalize vs 118 = s118
                                    generalize vs 119 = s119
                                    generalize vs 120 = s120
                                    generalize vs 121 = s121
                                    generalize vs 122 = s122
                                    generalize vs 123 = s123
                                    generalize vs 124 = s124
                                    generalize vs 125 = s125
                                    generalize vs 126 = s126
                                    generalize vs 127 = s127
                                    generalize vs 128 = s128
                                    generalize vs 129 = s129
                                    generalize vs 130 = s130
                                    generalize vs 131 = s131
                                    generalize vs 132 = s132
                                    generalize vs 133 = s133
                                    generalize vs 134 = s134
                                    generalize vs 135 = s135
                                    generalize vs 136 = s136
                                    generalize vs 137 = s137
                                    generalize vs 138 = s138
                                    generalize vs 139 = s139
                                    clear hv hal hne hb HL0 HBW HLS e140
                                    go_wp2_with fail
                                    go_ret
                                    exact ⟨_, rfl, HB.out, rfl⟩
                                · skip
                                  go_upto_region 19 with fail
                                  refine wp_region_vd 31 [110, 111, 112, 113, 114, 115, 116, 117, 118, 119, 120, 121, 122, 123, 124, 125, 126, 127, 128, 129, 130, 131, 132, 133, 134, 135, 136, 137, 138, 139, 140] [0, 1, 2, 6, 7, 8, 9, 10, 11, 12, 13, 14, 15, 16, 17, 18, 20, 21, 25, 26, 27, 28, 30] [] 84 [.int .i64 0, .int .i64 0] [isV (.int .i64 eK), isV (.bool false), isV (.bool false), isV undef, isV undef, isV undef, isV (.bool false), isV (.bool false), isV (.int .i64 eK), isV (.bool false), isV (.bool false), isV (.bool false), isV (.int .i64 eK), isV (.bool true), isV (.bool true), isV (.bool true), isV (.int .i64 eK), isV (.bool false), isV (.pointer (some ⟨g13, 0, none⟩)), isV (.int .i64 (2 * Wd)), isV (.bool false), isV (.bool false), isV undef, isV undef, isV undef, isV (.bool false), isV (.bool true), isV (.bool true), isV (.bool true), isV (.bool true), isV (.bool true)] (by rfl) alloc_Z ?_ ?_
                                  · intro qi qh qA aa wx hb hs hd
                                    match qi, qh, qA with
                                    | 0, _, _ => exact .inl ⟨rfl, op_mv rfl (hs 8 rfl)⟩
                                    | 1, _, _ => exact .inl ⟨rfl, pure_b (bool_eq (decide_eq_false (by have h9 := HE0.out; omega))) (⟨_, op_eqlE rfl (hd 0 rfl) rfl, rfl⟩)⟩
                                    | 2, _, _ => exact .inl ⟨rfl, op_mv rfl (hd 1 rfl)⟩
                                    | 3, _, _ => exact .inr ⟨⟨rfl, .inl (hd 2 rfl)⟩, rfl⟩
                                    | 4, _, _ => exact .inr ⟨⟨rfl, .inl (hd 2 rfl)⟩, rfl⟩
                                    | 5, _, _ => exact .inr ⟨⟨rfl, .inl (hd 2 rfl)⟩, rfl⟩
                                    | 6, _, _ => exact .inl ⟨rfl, ⟨_, op_pickF rfl (hd 2 rfl) rfl, rfl⟩⟩
                                    | 7, _, _ => exact .inl ⟨rfl, op_mv rfl (hd 6 rfl)⟩
                                    | 8, _, _ => exact .inl ⟨⟨rfl, .inl (hd 7 rfl)⟩, op_mv rfl (hs 8 rfl)⟩
                                    | 9, _, _ => exact .inl ⟨⟨rfl, .inl (hd 7 rfl)⟩, pure_b (bool_eq (decide_eq_false (by have h9 := HE0.out; omega))) (⟨_, op_eqlE rfl (hd 8 rfl) rfl, rfl⟩)⟩
                                    | 10, _, _ => exact .inl ⟨rfl, ⟨_, op_pickF rfl (hd 7 rfl) (hd 9 rfl), rfl⟩⟩
                                    | 11, _, _ => exact .inl ⟨rfl, op_mv rfl (hd 10 rfl)⟩
                                    | 12, _, _ => exact .inl ⟨⟨rfl, .inl (hd 11 rfl)⟩, op_mv rfl (hs 8 rfl)⟩
                                    | 13, _, _ => exact .inl ⟨⟨rfl, .inl (hd 11 rfl)⟩, pure_b (bool_eq (decide_eq_true HE0.out)) (⟨_, op_eqlE rfl (hd 12 rfl) rfl, rfl⟩)⟩
                                    | 14, _, _ => exact .inl ⟨rfl, ⟨_, op_pickF rfl (hd 11 rfl) (hd 13 rfl), rfl⟩⟩
                                    | 15, _, _ => exact .inl ⟨rfl, op_mv rfl (hd 14 rfl)⟩
                                    | 16, _, _ => exact .inl ⟨⟨rfl, .inl (hd 15 rfl)⟩, op_mv rfl (hs 8 rfl)⟩
                                    | 17, _, _ => exact .inl ⟨⟨rfl, .inl (hd 15 rfl)⟩, pure_b (bool_eq (decide_eq_false (by have h9 := HE0.out; omega))) (⟨_, op_eqlE rfl (hd 16 rfl) rfl, rfl⟩)⟩
                                    | 18, _, _ => exact .inl ⟨⟨rfl, .inl (hd 15 rfl)⟩, ⟨_, op_faT0 rfl (hs 13 rfl), rfl⟩⟩
                                    | 19, _, _ => exact .inl ⟨⟨rfl, .inl (hd 15 rfl)⟩, op_ldI rfl rfl (hd 18 rfl) ((HE.out.to hb).cell 2 0 rfl rfl)⟩
                                    | 20, _, _ => exact .inl ⟨⟨rfl, .inl (hd 15 rfl)⟩, pure_b (bool_eq (decide_eq_false hw6)) (⟨_, op_leqI rfl (hd 19 rfl) rfl, rfl⟩)⟩
                                    | 21, _, _ => exact .inl ⟨⟨rfl, .inl (hd 15 rfl)⟩, op_mv rfl (hd 20 rfl)⟩
                                    | 22, _, _ => exact .inr ⟨⟨rfl, .inl (hd 21 rfl)⟩, rfl⟩
                                    | 23, _, _ => exact .inr ⟨⟨rfl, .inl (hd 21 rfl)⟩, rfl⟩
                                    | 24, _, _ => exact .inr ⟨⟨rfl, .inl (hd 21 rfl)⟩, rfl⟩
                                    | 25, _, _ => exact .inl ⟨⟨rfl, .inl (hd 15 rfl)⟩, ⟨_, op_pickF rfl (hd 21 rfl) rfl, rfl⟩⟩
                                    | 26, _, _ => exact .inl ⟨⟨rfl, .inl (hd 15 rfl)⟩, pure_b (bool_eq rfl) (⟨_, op_eqlB rfl (hd 17 rfl) (hd 25 rfl), rfl⟩)⟩
                                    | 27, _, _ => exact .inl ⟨rfl, ⟨_, op_pickT rfl (hd 15 rfl) (hd 26 rfl), rfl⟩⟩
                                    | 28, _, _ => exact .inl ⟨rfl, op_mv rfl (hd 27 rfl)⟩
                                    | 29, _, _ => exact .inl ⟨⟨rfl, .inl (hd 28 rfl)⟩, op_call0 rfl rfl Try.call18 (awake_got _)⟩
                                    | 30, _, _ => exact .inl ⟨rfl, ⟨_, op_pickT rfl (hd 28 rfl) (hd 29 rfl), rfl⟩⟩
                                    | qi + 31, h, _ => omega
                                  · intro vs X2 hb hv hal hne
                                    have HL0 := Hd.mk (HE.out.lt)
                                    have HBW := HB
                                    replace HB := Hd.mk (bel_then HB.out hb)
                                    replace HE : Hd (Env X2 [⟨w.heap.size, 24, [.int .i64 Wd, .int .i64 Ht, .slice (some ad) xs.length k]⟩, ⟨w.heap.size + 1, 26, [.int .i64 x, .int .i64 y, .int .i64 t, .bool f]⟩, ⟨g13, 27, [.int .i64 (2 * Wd), .int .i64 Ht, .slice A13 ((dbl Wn xs yq).length) k13]⟩]) := ⟨HE.out.to hb⟩
                                    have HLS := HL0
                                    replace HM := Hd.mk (HM.out.to hb)
                                    have e140 : vs 140 = .bool true := hv 30 (by decide) rfl
                                    simp only [putAll, List.foldl_cons, List.foldl_nil, Act.put, List.setIfInBounds_toArray, List.set_cons_succ, List.set_cons_zero, List.drop_succ_cons, List.drop_zero, e140]
                                    generalize vs 110 = s110
                                    generalize vs 111 = s111
                                    generalize vs 112 = s112
                                    generalize vs 113 = s113
                                    generalize vs 114 = s114
                                    generalize vs 115 = s115
                                    generalize vs 116 = s116
                                    generalize vs 117 = s117
                                    generalize vs 118 = s118
                                    generalize vs 119 = s119
                                    generalize vs 120 = s120
                                    generalize vs 121 = s121
                                    generalize vs 122 = s122
                                    generalize vs 123 = s123
                                    generalize vs 124 = s124
                                    generalize vs 125 = s125
                                    generalize vs 126 = s126
                                    generalize vs 127 = s127
                                    generalize vs 128 = s128
                                    generalize vs 129 = s129
                                    generalize vs 130 = s130
                                    generalize vs 131 = s131
                                    generalize vs 132 = s132
                                    generalize vs 133 = s133
                                    generalize vs 134 = s134
                                    generalize vs 135 = s135
                                    generalize vs 136 = s136
                                    generalize vs 137 = s137
                                    generalize vs 138 = s138
                                    generalize vs 139 = s139
                                    clear hv hal hne hb HL0 HBW HLS e140
                                    go_wp2_with fail
                                    go_ret
                                    exact ⟨_, rfl, HB.out, rfl⟩
                · have HWD := Hd.mk hwd
                  clear hwd
                  obtain ⟨sK, eK, hKC, hKA⟩ := Kind_any (W := Wd) (H := 2 * Ht) (ys := xs ++ xs) (by omega) (by omega) (by rw [List.length_append, Int.natCast_add, valid_len HV.out, Int.mul_left_comm]; omega) (by rw [List.any_append, valid_bad HV.out]; rfl)
                  have HKC := Hd.mk hKC
                  have HKA := Hd.mk hKA
                  have HPT := Hd.mk (tall_pat (show 0 < Wd by omega) (show 0 < Ht by omega) (valid_len HV.out))
                  clear hKC hKA
                  go_upto_region 10 with fail
                  refine wp_region_vd 1 [73] [0] [] 84 [.int .i64 0, .int .i64 0] [isV (.bool false)] (by rfl) alloc_Z ?_ ?_
                  · intro qi qh qA aa wx hb hs hd
                    match qi, qh, qA with
                    | 0, _, _ => exact .inl ⟨rfl, pure_b (bool_eq HWD.out) (op_mv rfl (hs 2 rfl))⟩
                    | qi + 1, h, _ => omega
                  · intro vs X8 hb hv hal hne
                    have HL0 := Hd.mk (HE.out.lt)
                    have HBW := HB
                    replace HB := Hd.mk (bel_then HB.out hb)
                    replace HE : Hd (Env X8 [⟨w.heap.size, 24, [.int .i64 Wd, .int .i64 Ht, .slice (some ad) xs.length k]⟩, ⟨w.heap.size + 1, 26, [.int .i64 x, .int .i64 y, .int .i64 t, .bool f]⟩, ⟨g13, 27, [.int .i64 Wd, .int .i64 (2 * Ht), .slice A72 ((xs ++ xs).length) k72]⟩]) := ⟨HE.out.to hb⟩
                    have HLS := HL0
                    replace HM := Hd.mk (HM.out.to hb)
                    have e73 : vs 73 = .bool false := hv 0 (by decide) rfl
                    simp only [putAll, List.foldl_cons, List.foldl_nil, Act.put, List.setIfInBounds_toArray, List.set_cons_succ, List.set_cons_zero, List.drop_succ_cons, List.drop_zero, e73]
                    clear hv hal hne hb HL0 HBW HLS e73
                    go_upto_region 18 with fail
                    refine wp_region_vd 5 [106, 107, 105, 108, 109] [2, 3, 4] [] 84 [.int .i64 0, .int .i64 0] [isV (.agg #[.int .i64 Wd, .int .i64 (2 * Ht), .slice A72 ((xs ++ xs).length) k72]), isP (isV (sK)) (isV (.int .i64 eK)), isP (isV (sK)) (isV (.int .i64 eK)), isV (sK), isV (.int .i64 eK)] (by rfl) alloc_Z ?_ ?_
                    · intro qi qh qA aa wx hb hs hd
                      match qi, qh, qA with
                      | 0, _, _ => exact .inl ⟨rfl, op_ldT rfl rfl (hs 13 rfl) ((HE.out.to hb).get 2 rfl)⟩
                      | 1, _, _ => exact .inl ⟨rfl, op_call1 rfl rfl Try.call34 (HKA.out _ _ (rd_ex (xs := xs ++ xs) (hd 0 rfl) (HM.out.to hb).1))⟩
                      | 2, _, _ => exact .inl ⟨rfl, op_mv rfl (hd 1 rfl)⟩
                      | 3, _, _ => exact .inl ⟨rfl, op_fst rfl (hd 2 rfl)⟩
                      | 4, _, _ => exact .inl ⟨rfl, op_snd rfl (hd 2 rfl)⟩
                      | qi + 5, h, _ => omega
                    · intro vs X9 hb hv hal hne
                      have HL0 := Hd.mk (HE.out.lt)
                      have HBW := HB
                      replace HB := Hd.mk (bel_then HB.out hb)
                      replace HE : Hd (Env X9 [⟨w.heap.size, 24, [.int .i64 Wd, .int .i64 Ht, .slice (some ad) xs.length k]⟩, ⟨w.heap.size + 1, 26, [.int .i64 x, .int .i64 y, .int .i64 t, .bool f]⟩, ⟨g13, 27, [.int .i64 Wd, .int .i64 (2 * Ht), .slice A72 ((xs ++ xs).length) k72]⟩]) := ⟨HE.out.to hb⟩
                      have HLS := HL0
                      replace HM := Hd.mk (HM.out.to hb)
                      have e108 : vs 108 = sK := hv 3 (by decide) rfl
                      have e109 : vs 109 = .int .i64 eK := hv 4 (by decide) rfl
                      simp only [putAll, List.foldl_cons, List.foldl_nil, Act.put, List.setIfInBounds_toArray, List.set_cons_succ, List.set_cons_zero, List.drop_succ_cons, List.drop_zero, e108, e109]
                      generalize vs 106 = s106
                      generalize vs 107 = s107
                      generalize vs 105 = s105
                      clear hv hal hne hb HL0 HBW HLS e108 e109
                      rcases HKC.out with ⟨h0, hS, hw6, hh6⟩ | ⟨h0 | h0, _, hn6⟩
                      · have HE0 := Hd.mk h0
                        have HS0 := Hd.mk hS
                        clear h0 hS
                        go_upto_region 19 with fail
                        refine wp_region_vd 31 [110, 111, 112, 113, 114, 115, 116, 117, 118, 119, 120, 121, 122, 123, 124, 125, 126, 127, 128, 129, 130, 131, 132, 133, 134, 135, 136, 137, 138, 139, 140] [0, 1, 2, 3, 4, 5, 6, 7, 10, 11, 14, 15, 16, 17, 18, 20, 21, 22, 24, 25, 26, 27, 28, 30] [] 84 [.int .i64 0, .int .i64 0] [isV (.int .i64 eK), isV (.bool true), isV (.bool true), isV (sK), isV (knm (kindF (colF Wd Ht xs))), isV (.bool true), isV (.bool true), isV (.bool true), isV undef, isV undef, isV (.bool true), isV (.bool true), isV undef, isV undef, isV (.bool true), isV (.bool true), isV (.int .i64 eK), isV (.bool true), isV (.pointer (some ⟨g13, 0, none⟩)), isV (.int .i64 Wd), isV (.bool true), isV (.bool true), isV (.pointer (some ⟨g13, 1, none⟩)), isV (.int .i64 (2 * Ht)), isV (.bool true), isV (.bool true), isV (.bool true), isV (.bool true), isV (.bool true), isV (.bool true), isV (.bool true)] (by rfl) alloc_Z ?_ ?_
                        · intro qi qh qA aa wx hb hs hd
                          match qi, qh, qA with
                          | 0, _, _ => exact .inl ⟨rfl, op_mv rfl (hs 8 rfl)⟩
                          | 1, _, _ => exact .inl ⟨rfl, pure_b (bool_eq (decide_eq_true HE0.out)) (⟨_, op_eqlE rfl (hd 0 rfl) rfl, rfl⟩)⟩
                          | 2, _, _ => exact .inl ⟨rfl, op_mv rfl (hd 1 rfl)⟩
                          | 3, _, _ => exact .inl ⟨⟨rfl, .inl (hd 2 rfl)⟩, op_mv rfl (hs 16 rfl)⟩
                          | 4, _, _ => exact .inl ⟨⟨rfl, .inl (hd 2 rfl)⟩, op_mv rfl (hs 7 rfl)⟩
                          | 5, _, _ => exact .inl ⟨⟨rfl, .inl (hd 2 rfl)⟩, ⟨_, op_eqlSS (v := knm (kindF (colF Wd Ht xs))) (knm_str _) rfl ((hd 3 rfl).trans (by rw [HS0.out, HPT.out])) (hd 4 rfl), rfl⟩⟩
                          | 6, _, _ => exact .inl ⟨rfl, ⟨_, op_pickT rfl (hd 2 rfl) (hd 5 rfl), rfl⟩⟩
                          | 7, _, _ => exact .inl ⟨rfl, op_mv rfl (hd 6 rfl)⟩
                          | 8, _, _ => exact .inr ⟨⟨rfl, .inl (hd 7 rfl)⟩, rfl⟩
                          | 9, _, _ => exact .inr ⟨⟨rfl, .inl (hd 7 rfl)⟩, rfl⟩
                          | 10, _, _ => exact .inl ⟨rfl, ⟨_, op_pickT rfl (hd 7 rfl) rfl, rfl⟩⟩
                          | 11, _, _ => exact .inl ⟨rfl, op_mv rfl (hd 10 rfl)⟩
                          | 12, _, _ => exact .inr ⟨⟨rfl, .inl (hd 11 rfl)⟩, rfl⟩
                          | 13, _, _ => exact .inr ⟨⟨rfl, .inl (hd 11 rfl)⟩, rfl⟩
                          | 14, _, _ => exact .inl ⟨rfl, ⟨_, op_pickT rfl (hd 11 rfl) rfl, rfl⟩⟩
                          | 15, _, _ => exact .inl ⟨rfl, op_mv rfl (hd 14 rfl)⟩
                          | 16, _, _ => exact .inl ⟨⟨rfl, .inl (hd 15 rfl)⟩, op_mv rfl (hs 8 rfl)⟩
                          | 17, _, _ => exact .inl ⟨⟨rfl, .inl (hd 15 rfl)⟩, pure_b (bool_eq (decide_eq_true HE0.out)) (⟨_, op_eqlE rfl (hd 16 rfl) rfl, rfl⟩)⟩
                          | 18, _, _ => exact .inl ⟨⟨rfl, .inl (hd 15 rfl)⟩, ⟨_, op_faT0 rfl (hs 13 rfl), rfl⟩⟩
                          | 19, _, _ => exact .inl ⟨⟨rfl, .inl (hd 15 rfl)⟩, op_ldI rfl rfl (hd 18 rfl) ((HE.out.to hb).cell 2 0 rfl rfl)⟩
                          | 20, _, _ => exact .inl ⟨⟨rfl, .inl (hd 15 rfl)⟩, pure_b (bool_eq (decide_eq_true hw6)) (⟨_, op_leqI rfl (hd 19 rfl) rfl, rfl⟩)⟩
                          | 21, _, _ => exact .inl ⟨⟨rfl, .inl (hd 15 rfl)⟩, op_mv rfl (hd 20 rfl)⟩
                          | 22, _, _ => exact .inl ⟨⟨rfl, .inl (hd 21 rfl)⟩, ⟨_, op_faT1 rfl (hs 13 rfl), rfl⟩⟩
                          | 23, _, _ => exact .inl ⟨⟨rfl, .inl (hd 21 rfl)⟩, op_ldI rfl rfl (hd 22 rfl) ((HE.out.to hb).cell 2 1 rfl rfl)⟩
                          | 24, _, _ => exact .inl ⟨⟨rfl, .inl (hd 21 rfl)⟩, pure_b (bool_eq (decide_eq_true hh6)) (⟨_, op_leqI rfl (hd 23 rfl) rfl, rfl⟩)⟩
                          | 25, _, _ => exact .inl ⟨⟨rfl, .inl (hd 15 rfl)⟩, ⟨_, op_pickT rfl (hd 21 rfl) (hd 24 rfl), rfl⟩⟩
                          | 26, _, _ => exact .inl ⟨⟨rfl, .inl (hd 15 rfl)⟩, pure_b (bool_eq rfl) (⟨_, op_eqlB rfl (hd 17 rfl) (hd 25 rfl), rfl⟩)⟩
                          | 27, _, _ => exact .inl ⟨rfl, ⟨_, op_pickT rfl (hd 15 rfl) (hd 26 rfl), rfl⟩⟩
                          | 28, _, _ => exact .inl ⟨rfl, op_mv rfl (hd 27 rfl)⟩
                          | 29, _, _ => exact .inl ⟨⟨rfl, .inl (hd 28 rfl)⟩, op_call0 rfl rfl Try.call18 (awake_got _)⟩
                          | 30, _, _ => exact .inl ⟨rfl, ⟨_, op_pickT rfl (hd 28 rfl) (hd 29 rfl), rfl⟩⟩
                          | qi + 31, h, _ => omega
                        · intro vs X10 hb hv hal hne
                          have HL0 := Hd.mk (HE.out.lt)
                          have HBW := HB
                          replace HB := Hd.mk (bel_then HB.out hb)
                          replace HE : Hd (Env X10 [⟨w.heap.size, 24, [.int .i64 Wd, .int .i64 Ht, .slice (some ad) xs.length k]⟩, ⟨w.heap.size + 1, 26, [.int .i64 x, .int .i64 y, .int .i64 t, .bool f]⟩, ⟨g13, 27, [.int .i64 Wd, .int .i64 (2 * Ht), .slice A72 ((xs ++ xs).length) k72]⟩]) := ⟨HE.out.to hb⟩
                          have HLS := HL0
                          replace HM := Hd.mk (HM.out.to hb)
                          have e140 : vs 140 = .bool true := hv 30 (by decide) rfl
                          simp only [putAll, List.foldl_cons, List.foldl_nil, Act.put, List.setIfInBounds_toArray, List.set_cons_succ, List.set_cons_zero, List.drop_succ_cons, List.drop_zero, e140]
                          generalize vs 110 = s110
                          generalize vs 111 = s111
                          generalize vs 112 = s112
                          generalize vs 113 = s113
                          generalize vs 114 = s114
                          generalize vs 115 = s115
                          generalize vs 116 = s116
                          generalize vs 117 = s117
                          generalize vs 118 = s118
                          generalize vs 119 = s119
                          generalize vs 120 = s120
                          generalize vs 121 = s121
                          generalize vs 122 = s122
                          generalize vs 123 = s123
                          generalize vs 124 = s124
                          generalize vs 125 = s125
                          generalize vs 126 = s126
                          generalize vs 127 = s127
                          generalize vs 128 = s128
                          generalize vs 129 = s129
                          generalize vs 130 = s130
                          generalize vs 131 = s131
                          generalize vs 132 = s132
                          generalize vs 133 = s133
                          generalize vs 134 = s134
                          generalize vs 135 = s135
                          generalize vs 136 = s136
                          generalize vs 137 = s137
                          generalize vs 138 = s138
                          generalize vs 139 = s139
                          clear hv hal hne hb HL0 HBW HLS e140
                          go_wp2_with fail
                          go_ret
                          exact ⟨_, rfl, HB.out, rfl⟩
                      · have HE0 := Hd.mk h0
                        clear h0
                        by_cases hw6 : Wd ≤ 6
                        · skip
                          go_upto_region 19 with fail
                          refine wp_region_vd 31 [110, 111, 112, 113, 114, 115, 116, 117, 118, 119, 120, 121, 122, 123, 124, 125, 126, 127, 128, 129, 130, 131, 132, 133, 134, 135, 136, 137, 138, 139, 140] [0, 1, 2, 6, 7, 8, 9, 10, 11, 14, 15, 16, 17, 18, 20, 21, 22, 24, 25, 26, 27, 28, 30] [] 84 [.int .i64 0, .int .i64 0] [isV (.int .i64 eK), isV (.bool false), isV (.bool false), isV undef, isV undef, isV undef, isV (.bool false), isV (.bool false), isV (.int .i64 eK), isV (.bool true), isV (.bool true), isV (.bool true), isV undef, isV undef, isV (.bool true), isV (.bool true), isV (.int .i64 eK), isV (.bool false), isV (.pointer (some ⟨g13, 0, none⟩)), isV (.int .i64 Wd), isV (.bool true), isV (.bool true), isV (.pointer (some ⟨g13, 1, none⟩)), isV (.int .i64 (2 * Ht)), isV (.bool false), isV (.bool false), isV (.bool true), isV (.bool true), isV (.bool true), isV (.bool true), isV (.bool true)] (by rfl) alloc_Z ?_ ?_
                          · intro qi qh qA aa wx hb hs hd
                            match qi, qh, qA with
                            | 0, _, _ => exact .inl ⟨rfl, op_mv rfl (hs 8 rfl)⟩
                            | 1, _, _ => exact .inl ⟨rfl, pure_b (bool_eq (decide_eq_false (by have h9 := HE0.out; omega))) (⟨_, op_eqlE rfl (hd 0 rfl) rfl, rfl⟩)⟩
                            | 2, _, _ => exact .inl ⟨rfl, op_mv rfl (hd 1 rfl)⟩
                            | 3, _, _ => exact .inr ⟨⟨rfl, .inl (hd 2 rfl)⟩, rfl⟩
                            | 4, _, _ => exact .inr ⟨⟨rfl, .inl (hd 2 rfl)⟩, rfl⟩
                            | 5, _, _ => exact .inr ⟨⟨rfl, .inl (hd 2 rfl)⟩, rfl⟩
                            | 6, _, _ => exact .inl ⟨rfl, ⟨_, op_pickF rfl (hd 2 rfl) rfl, rfl⟩⟩
                            | 7, _, _ => exact .inl ⟨rfl, op_mv rfl (hd 6 rfl)⟩
                            | 8, _, _ => exact .inl ⟨⟨rfl, .inl (hd 7 rfl)⟩, op_mv rfl (hs 8 rfl)⟩
                            | 9, _, _ => exact .inl ⟨⟨rfl, .inl (hd 7 rfl)⟩, pure_b (bool_eq (decide_eq_true (by have h9 := HE0.out; omega))) (⟨_, op_eqlE rfl (hd 8 rfl) rfl, rfl⟩)⟩
                            | 10, _, _ => exact .inl ⟨rfl, ⟨_, op_pickF rfl (hd 7 rfl) (hd 9 rfl), rfl⟩⟩
                            | 11, _, _ => exact .inl ⟨rfl, op_mv rfl (hd 10 rfl)⟩
                            | 12, _, _ => exact .inr ⟨⟨rfl, .inl (hd 11 rfl)⟩, rfl⟩
                            | 13, _, _ => exact .inr ⟨⟨rfl, .inl (hd 11 rfl)⟩, rfl⟩
                            | 14, _, _ => exact .inl ⟨rfl, ⟨_, op_pickT rfl (hd 11 rfl) rfl, rfl⟩⟩
                            | 15, _, _ => exact .inl ⟨rfl, op_mv rfl (hd 14 rfl)⟩
                            | 16, _, _ => exact .inl ⟨⟨rfl, .inl (hd 15 rfl)⟩, op_mv rfl (hs 8 rfl)⟩
                            | 17, _, _ => exact .inl ⟨⟨rfl, .inl (hd 15 rfl)⟩, pure_b (bool_eq (decide_eq_false (by have h9 := HE0.out; omega))) (⟨_, op_eqlE rfl (hd 16 rfl) rfl, rfl⟩)⟩
                            | 18, _, _ => exact .inl ⟨⟨rfl, .inl (hd 15 rfl)⟩, ⟨_, op_faT0 rfl (hs 13 rfl), rfl⟩⟩
                            | 19, _, _ => exact .inl ⟨⟨rfl, .inl (hd 15 rfl)⟩, op_ldI rfl rfl (hd 18 rfl) ((HE.out.to hb).cell 2 0 rfl rfl)⟩
                            | 20, _, _ => exact .inl ⟨⟨rfl, .inl (hd 15 rfl)⟩, pure_b (bool_eq (decide_eq_true hw6)) (⟨_, op_leqI rfl (hd 19 rfl) rfl, rfl⟩)⟩
                            | 21, _, _ => exact .inl ⟨⟨rfl, .inl (hd 15 rfl)⟩, op_mv rfl (hd 20 rfl)⟩
                            | 22, _, _ => exact .inl ⟨⟨rfl, .inl (hd 21 rfl)⟩, ⟨_, op_faT1 rfl (hs 13 rfl), rfl⟩⟩
                            | 23, _, _ => exact .inl ⟨⟨rfl, .inl (hd 21 rfl)⟩, op_ldI rfl rfl (hd 22 rfl) ((HE.out.to hb).cell 2 1 rfl rfl)⟩
                            | 24, _, _ => exact .inl ⟨⟨rfl, .inl (hd 21 rfl)⟩, pure_b (bool_eq (decide_eq_false (fun h9 => hn6 ⟨hw6, h9⟩))) (⟨_, op_leqI rfl (hd 23 rfl) rfl, rfl⟩)⟩
                            | 25, _, _ => exact .inl ⟨⟨rfl, .inl (hd 15 rfl)⟩, ⟨_, op_pickT rfl (hd 21 rfl) (hd 24 rfl), rfl⟩⟩
                            | 26, _, _ => exact .inl ⟨⟨rfl, .inl (hd 15 rfl)⟩, pure_b (bool_eq rfl) (⟨_, op_eqlB rfl (hd 17 rfl) (hd 25 rfl), rfl⟩)⟩
                            | 27, _, _ => exact .inl ⟨rfl, ⟨_, op_pickT rfl (hd 15 rfl) (hd 26 rfl), rfl⟩⟩
                            | 28, _, _ => exact .inl ⟨rfl, op_mv rfl (hd 27 rfl)⟩
                            | 29, _, _ => exact .inl ⟨⟨rfl, .inl (hd 28 rfl)⟩, op_call0 rfl rfl Try.call18 (awake_got _)⟩
                            | 30, _, _ => exact .inl ⟨rfl, ⟨_, op_pickT rfl (hd 28 rfl) (hd 29 rfl), rfl⟩⟩
                            | qi + 31, h, _ => omega
                          · intro vs X10 hb hv hal hne
                            have HL0 := Hd.mk (HE.out.lt)
                            have HBW := HB
                            replace HB := Hd.mk (bel_then HB.out hb)
                            replace HE : Hd (Env X10 [⟨w.heap.size, 24, [.int .i64 Wd, .int .i64 Ht, .slice (some ad) xs.length k]⟩, ⟨w.heap.size + 1, 26, [.int .i64 x, .int .i64 y, .int .i64 t, .bool f]⟩, ⟨g13, 27, [.int .i64 Wd, .int .i64 (2 * Ht), .slice A72 ((xs ++ xs).length) k72]⟩]) := ⟨HE.out.to hb⟩
                            have HLS := HL0
                            replace HM := Hd.mk (HM.out.to hb)
                            have e140 : vs 140 = .bool true := hv 30 (by decide) rfl
                            simp only [putAll, List.foldl_cons, List.foldl_nil, Act.put, List.setIfInBounds_toArray, List.set_cons_succ, List.set_cons_zero, List.drop_succ_cons, List.drop_zero, e140]
                            generalize vs 110 = s110
                            generalize vs 111 = s111
                            generalize vs 112 = s112
                            generalize vs 113 = s113
                            generalize vs 114 = s114
                            generalize vs 115 = s115
                            generalize vs 116 = s116
                            generalize vs 117 = s117
                            generalize vs 118 = s118
                            generalize vs 119 = s119
                            generalize vs 120 = s120
                            generalize vs 121 = s121
                            generalize vs 122 = s122
                            generalize vs 123 = s123
                            generalize vs 124 = s124
                            generalize vs 125 = s125
                            generalize vs 126 = s126
                            generalize vs 127 = s127
                            generalize vs 128 = s128
                            generalize vs 129 = s129
                            generalize vs 130 = s130
                            generalize vs 131 = s131
                            generalize vs 132 = s132
                            generalize vs 133 = s133
                            generalize vs 134 = s134
                            generalize vs 135 = s135
                            generalize vs 136 = s136
                            generalize vs 137 = s137
                            generalize vs 138 = s138
                            generalize vs 139 = s139
                            clear hv hal hne hb HL0 HBW HLS e140
                            go_wp2_with fail
                            go_ret
                            exact ⟨_, rfl, HB.out, rfl⟩
                        · skip
                          go_upto_region 19 with fail
                          refine wp_region_vd 31 [110, 111, 112, 113, 114, 115, 116, 117, 118, 119, 120, 121, 122, 123, 124, 125, 126, 127, 128, 129, 130, 131, 132, 133, 134, 135, 136, 137, 138, 139, 140] [0, 1, 2, 6, 7, 8, 9, 10, 11, 14, 15, 16, 17, 18, 20, 21, 25, 26, 27, 28, 30] [] 84 [.int .i64 0, .int .i64 0] [isV (.int .i64 eK), isV (.bool false), isV (.bool false), isV undef, isV undef, isV undef, isV (.bool false), isV (.bool false), isV (.int .i64 eK), isV (.bool true), isV (.bool true), isV (.bool true), isV undef, isV undef, isV (.bool true), isV (.bool true), isV (.int .i64 eK), isV (.bool false), isV (.pointer (some ⟨g13, 0, none⟩)), isV (.int .i64 Wd), isV (.bool false), isV (.bool false), isV undef, isV undef, isV undef, isV (.bool false), isV (.bool true), isV (.bool true), isV (.bool true), isV (.bool true), isV (.bool true)] (by rfl) alloc_Z ?_ ?_
                          · intro qi qh qA aa wx hb hs hd
                            match qi, qh, qA with
                            | 0, _, _ => exact .inl ⟨rfl, op_mv rfl (hs 8 rfl)⟩
                            | 1, _, _ => exact .inl ⟨rfl, pure_b (bool_eq (decide_eq_false (by have h9 := HE0.out; omega))) (⟨_, op_eqlE rfl (hd 0 rfl) rfl, rfl⟩)⟩
                            | 2, _, _ => exact .inl ⟨rfl, op_mv rfl (hd 1 rfl)⟩
                            | 3, _, _ => exact .inr ⟨⟨rfl, .inl (hd 2 rfl)⟩, rfl⟩
                            | 4, _, _ => exact .inr ⟨⟨rfl, .inl (hd 2 rfl)⟩, rfl⟩
                            | 5, _, _ => exact .inr ⟨⟨rfl, .inl (hd 2 rfl)⟩, rfl⟩
                            | 6, _, _ => exact .inl ⟨rfl, ⟨_, op_pickF rfl (hd 2 rfl) rfl, rfl⟩⟩
                            | 7, _, _ => exact .inl ⟨rfl, op_mv rfl (hd 6 rfl)⟩
                            | 8, _, _ => exact .inl ⟨⟨rfl, .inl (hd 7 rfl)⟩, op_mv rfl (hs 8 rfl)⟩
                            | 9, _, _ => exact .inl ⟨⟨rfl, .inl (hd 7 rfl)⟩, pure_b (bool_eq (decide_eq_true (by have h9 := HE0.out; omega))) (⟨_, op_eqlE rfl (hd 8 rfl) rfl, rfl⟩)⟩
                            | 10, _, _ => exact .inl ⟨rfl, ⟨_, op_pickF rfl (hd 7 rfl) (hd 9 rfl), rfl⟩⟩
                            | 11, _, _ => exact .inl ⟨rfl, op_mv rfl (hd 10 rfl)⟩
                            | 12, _, _ => exact .inr ⟨⟨rfl, .inl (hd 11 rfl)⟩, rfl⟩
                            | 13, _, _ => exact .inr ⟨⟨rfl, .inl (hd 11 rfl)⟩, rfl⟩
                            | 14, _, _ => exact .inl ⟨rfl, ⟨_, op_pickT rfl (hd 11 rfl) rfl, rfl⟩⟩
                            | 15, _, _ => exact .inl ⟨rfl, op_mv rfl (hd 14 rfl)⟩
                            | 16, _, _ => exact .inl ⟨⟨rfl, .inl (hd 15 rfl)⟩, op_mv rfl (hs 8 rfl)⟩
                            | 17, _, _ => exact .inl ⟨⟨rfl, .inl (hd 15 rfl)⟩, pure_b (bool_eq (decide_eq_false (by have h9 := HE0.out; omega))) (⟨_, op_eqlE rfl (hd 16 rfl) rfl, rfl⟩)⟩
                            | 18, _, _ => exact .inl ⟨⟨rfl, .inl (hd 15 rfl)⟩, ⟨_, op_faT0 rfl (hs 13 rfl), rfl⟩⟩
                            | 19, _, _ => exact .inl ⟨⟨rfl, .inl (hd 15 rfl)⟩, op_ldI rfl rfl (hd 18 rfl) ((HE.out.to hb).cell 2 0 rfl rfl)⟩
                            | 20, _, _ => exact .inl ⟨⟨rfl, .inl (hd 15 rfl)⟩, pure_b (bool_eq (decide_eq_false hw6)) (⟨_, op_leqI rfl (hd 19 rfl) rfl, rfl⟩)⟩
                            | 21, _, _ => exact .inl ⟨⟨rfl, .inl (hd 15 rfl)⟩, op_mv rfl (hd 20 rfl)⟩
                            | 22, _, _ => exact .inr ⟨⟨rfl, .inl (hd 21 rfl)⟩, rfl⟩
                            | 23, _, _ => exact .inr ⟨⟨rfl, .inl (hd 21 rfl)⟩, rfl⟩
                            | 24, _, _ => exact .inr ⟨⟨rfl, .inl (hd 21 rfl)⟩, rfl⟩
                            | 25, _, _ => exact .inl ⟨⟨rfl, .inl (hd 15 rfl)⟩, ⟨_, op_pickF rfl (hd 21 rfl) rfl, rfl⟩⟩
                            | 26, _, _ => exact .inl ⟨⟨rfl, .inl (hd 15 rfl)⟩, pure_b (bool_eq rfl) (⟨_, op_eqlB rfl (hd 17 rfl) (hd 25 rfl), rfl⟩)⟩
                            | 27, _, _ => exact .inl ⟨rfl, ⟨_, op_pickT rfl (hd 15 rfl) (hd 26 rfl), rfl⟩⟩
                            | 28, _, _ => exact .inl ⟨rfl, op_mv rfl (hd 27 rfl)⟩
                            | 29, _, _ => exact .inl ⟨⟨rfl, .inl (hd 28 rfl)⟩, op_call0 rfl rfl Try.call18 (awake_got _)⟩
                            | 30, _, _ => exact .inl ⟨rfl, ⟨_, op_pickT rfl (hd 28 rfl) (hd 29 rfl), rfl⟩⟩
                            | qi + 31, h, _ => omega
                          · intro vs X10 hb hv hal hne
                            have HL0 := Hd.mk (HE.out.lt)
                            have HBW := HB
                            replace HB := Hd.mk (bel_then HB.out hb)
                            replace HE : Hd (Env X10 [⟨w.heap.size, 24, [.int .i64 Wd, .int .i64 Ht, .slice (some ad) xs.length k]⟩, ⟨w.heap.size + 1, 26, [.int .i64 x, .int .i64 y, .int .i64 t, .bool f]⟩, ⟨g13, 27, [.int .i64 Wd, .int .i64 (2 * Ht), .slice A72 ((xs ++ xs).length) k72]⟩]) := ⟨HE.out.to hb⟩
                            have HLS := HL0
                            replace HM := Hd.mk (HM.out.to hb)
                            have e140 : vs 140 = .bool true := hv 30 (by decide) rfl
                            simp only [putAll, List.foldl_cons, List.foldl_nil, Act.put, List.setIfInBounds_toArray, List.set_cons_succ, List.set_cons_zero, List.drop_succ_cons, List.drop_zero, e140]
                            generalize vs 110 = s110
                            generalize vs 111 = s111
                            generalize vs 112 = s112
                            generalize vs 113 = s113
                            generalize vs 114 = s114
                            generalize vs 115 = s115
                            generalize vs 116 = s116
                            generalize vs 117 = s117
                            generalize vs 118 = s118
                            generalize vs 119 = s119
                            generalize vs 120 = s120
                            generalize vs 121 = s121
                            generalize vs 122 = s122
                            generalize vs 123 = s123
                            generalize vs 124 = s124
                            generalize vs 125 = s125
                            generalize vs 126 = s126
                            generalize vs 127 = s127
                            generalize vs 128 = s128
                            generalize vs 129 = s129
                            generalize vs 130 = s130
                            generalize vs 131 = s131
                            generalize vs 132 = s132
                            generalize vs 133 = s133
                            generalize vs 134 = s134
                            generalize vs 135 = s135
                            generalize vs 136 = s136
                            generalize vs 137 = s137
                            generalize vs 138 = s138
                            generalize vs 139 = s139
                            clear hv hal hne hb HL0 HBW HLS e140
                            go_wp2_with fail
                            go_ret
                            exact ⟨_, rfl, HB.out, rfl⟩
                      · have HE0 := Hd.mk h0
                        clear h0
                        by_cases hw6 : Wd ≤ 6
                        · skip
                          go_upto_region 19 with fail
                          refine wp_region_vd 31 [110, 111, 112, 113, 114, 115, 116, 117, 118, 119, 120, 121, 122, 123, 124, 125, 126, 127, 128, 129, 130, 131, 132, 133, 134, 135, 136, 137, 138, 139, 140] [0, 1, 2, 6, 7, 8, 9, 10, 11, 12, 13, 14, 15, 16, 17, 18, 20, 21, 22, 24, 25, 26, 27, 28, 30] [] 84 [.int .i64 0, .int .i64 0] [isV (.int .i64 eK), isV (.bool false), isV (.bool false), isV undef, isV undef, isV undef, isV (.bool false), isV (.bool false), isV (.int .i64 eK), isV (.bool false), isV (.bool false), isV (.bool false), isV (.int .i64 eK), isV (.bool true), isV (.bool true), isV (.bool true), isV (.int .i64 eK), isV (.bool false), isV (.pointer (some ⟨g13, 0, none⟩)), isV (.int .i64 Wd), isV (.bool true), isV (.bool true), isV (.pointer (some ⟨g13, 1, none⟩)), isV (.int .i64 (2 * Ht)), isV (.bool false), isV (.bool false), isV (.bool true), isV (.bool true), isV (.bool true), isV (.bool true), isV (.bool true)] (by rfl) alloc_Z ?_ ?_
                          · intro qi qh qA aa wx hb hs hd
                            match qi, qh, qA with
                            | 0, _, _ => exact .inl ⟨rfl, op_mv rfl (hs 8 rfl)⟩
                            | 1, _, _ => exact .inl ⟨rfl, pure_b (bool_eq (decide_eq_false (by have h9 := HE0.out; omega))) (⟨_, op_eqlE rfl (hd 0 rfl) rfl, rfl⟩)⟩
                            | 2, _, _ => exact .inl ⟨rfl, op_mv rfl (hd 1 rfl)⟩
                            | 3, _, _ => exact .inr ⟨⟨rfl, .inl (hd 2 rfl)⟩, rfl⟩
                            | 4, _, _ => exact .inr ⟨⟨rfl, .inl (hd 2 rfl)⟩, rfl⟩
                            | 5, _, _ => exact .inr ⟨⟨rfl, .inl (hd 2 rfl)⟩, rfl⟩
                            | 6, _, _ => exact .inl ⟨rfl, ⟨_, op_pickF rfl (hd 2 rfl) rfl, rfl⟩⟩
                            | 7, _, _ => exact .inl ⟨rfl, op_mv rfl (hd 6 rfl)⟩
                            | 8, _, _ => exact .inl ⟨⟨rfl, .inl (hd 7 rfl)⟩, op_mv rfl (hs 8 rfl)⟩
                            | 9, _, _ => exact .inl ⟨⟨rfl, .inl (hd 7 rfl)⟩, pure_b (bool_eq (decide_eq_false (by have h9 := HE0.out; omega))) (⟨_, op_eqlE rfl (hd 8 rfl) rfl, rfl⟩)⟩
                            | 10, _, _ => exact .inl ⟨rfl, ⟨_, op_pickF rfl (hd 7 rfl) (hd 9 rfl), rfl⟩⟩
                            | 11, _, _ => exact .inl ⟨rfl, op_mv rfl (hd 10 rfl)⟩
                            | 12, _, _ => exact .inl ⟨⟨rfl, .inl (hd 11 rfl)⟩, op_mv rfl (hs 8 rfl)⟩
                            | 13, _, _ => exact .inl ⟨⟨rfl, .inl (hd 11 rfl)⟩, pure_b (bool_eq (decide_eq_true HE0.out)) (⟨_, op_eqlE rfl (hd 12 rfl) rfl, rfl⟩)⟩
                            | 14, _, _ => exact .inl ⟨rfl, ⟨_, op_pickF rfl (hd 11 rfl) (hd 13 rfl), rfl⟩⟩
                            | 15, _, _ => exact .inl ⟨rfl, op_mv rfl (hd 14 rfl)⟩
                            | 16, _, _ => exact .inl ⟨⟨rfl, .inl (hd 15 rfl)⟩, op_mv rfl (hs 8 rfl)⟩
                            | 17, _, _ => exact .inl ⟨⟨rfl, .inl (hd 15 rfl)⟩, pure_b (bool_eq (decide_eq_false (by have h9 := HE0.out; omega))) (⟨_, op_eqlE rfl (hd 16 rfl) rfl, rfl⟩)⟩
                            | 18, _, _ => exact .inl ⟨⟨rfl, .inl (hd 15 rfl)⟩, ⟨_, op_faT0 rfl (hs 13 rfl), rfl⟩⟩
                            | 19, _, _ => exact .inl ⟨⟨rfl, .inl (hd 15 rfl)⟩, op_ldI rfl rfl (hd 18 rfl) ((HE.out.to hb).cell 2 0 rfl rfl)⟩
                            | 20, _, _ => exact .inl ⟨⟨rfl, .inl (hd 15 rfl)⟩, pure_b (bool_eq (decide_eq_true hw6)) (⟨_, op_leqI rfl (hd 19 rfl) rfl, rfl⟩)⟩
                            | 21, _, _ => exact .inl ⟨⟨rfl, .inl (hd 15 rfl)⟩, op_mv rfl (hd 20 rfl)⟩
                            | 22, _, _ => exact .inl ⟨⟨rfl, .inl (hd 21 rfl)⟩, ⟨_, op_faT1 rfl (hs 13 rfl), rfl⟩⟩
                            | 23, _, _ => exact .inl ⟨⟨rfl, .inl (hd 21 rfl)⟩, op_ldI rfl rfl (hd 22 rfl) ((HE.out.to hb).cell 2 1 rfl rfl)⟩
                            | 24, _, _ => exact .inl ⟨⟨rfl, .inl (hd 21 rfl)⟩, pure_b (bool_eq (decide_eq_false (fun h9 => hn6 ⟨hw6, h9⟩))) (⟨_, op_leqI rfl (hd 23 rfl) rfl, rfl⟩)⟩
                            | 25, _, _ => exact .inl ⟨⟨rfl, .inl (hd 15 rfl)⟩, ⟨_, op_pickT rfl (hd 21 rfl) (hd 24 rfl), rfl⟩⟩
                            | 26, _, _ => exact .inl ⟨⟨rfl, .inl (hd 15 rfl)⟩, pure_b (bool_eq rfl) (⟨_, op_eqlB rfl (hd 17 rfl) (hd 25 rfl), rfl⟩)⟩
                            | 27, _, _ => exact .inl ⟨rfl, ⟨_, op_pickT rfl (hd 15 rfl) (hd 26 rfl), rfl⟩⟩
                            | 28, _, _ => exact .inl ⟨rfl, op_mv rfl (hd 27 rfl)⟩
                            | 29, _, _ => exact .inl ⟨⟨rfl, .inl (hd 28 rfl)⟩, op_call0 rfl rfl Try.call18 (awake_got _)⟩
                            | 30, _, _ => exact .inl ⟨rfl, ⟨_, op_pickT rfl (hd 28 rfl) (hd 29 rfl), rfl⟩⟩
                            | qi + 31, h, _ => omega
                          · intro vs X10 hb hv hal hne
                            have HL0 := Hd.mk (HE.out.lt)
                            have HBW := HB
                            replace HB := Hd.mk (bel_then HB.out hb)
                            replace HE : Hd (Env X10 [⟨w.heap.size, 24, [.int .i64 Wd, .int .i64 Ht, .slice (some ad) xs.length k]⟩, ⟨w.heap.size + 1, 26, [.int .i64 x, .int .i64 y, .int .i64 t, .bool f]⟩, ⟨g13, 27, [.int .i64 Wd, .int .i64 (2 * Ht), .slice A72 ((xs ++ xs).length) k72]⟩]) := ⟨HE.out.to hb⟩
                            have HLS := HL0
                            replace HM := Hd.mk (HM.out.to hb)
                            have e140 : vs 140 = .bool true := hv 30 (by decide) rfl
                            simp only [putAll, List.foldl_cons, List.foldl_nil, Act.put, List.setIfInBounds_toArray, List.set_cons_succ, List.set_cons_zero, List.drop_succ_cons, List.drop_zero, e140]
                            generalize vs 110 = s110
                            generalize vs 111 = s111
                            generalize vs 112 = s112
                            generalize vs 113 = s113
                            generalize vs 114 = s114
                            generalize vs 115 = s115
                            generalize vs 116 = s116
                            generalize vs 117 = s117
                            generalize vs 118 = s118
                            generalize vs 119 = s119
                            generalize vs 120 = s120
                            generalize vs 121 = s121
                            generalize vs 122 = s122
                            generalize vs 123 = s123
                            generalize vs 124 = s124
                            generalize vs 125 = s125
                            generalize vs 126 = s126
                            generalize vs 127 = s127
                            generalize vs 128 = s128
                            generalize vs 129 = s129
                            generalize vs 130 = s130
                            generalize vs 131 = s131
                            generalize vs 132 = s132
                            generalize vs 133 = s133
                            generalize vs 134 = s134
                            generalize vs 135 = s135
                            generalize vs 136 = s136
                            generalize vs 137 = s137
                            generalize vs 138 = s138
                            generalize vs 139 = s139
                            clear hv hal hne hb HL0 HBW HLS e140
                            go_wp2_with fail
                            go_ret
                            exact ⟨_, rfl, HB.out, rfl⟩
                        · skip
                          go_upto_region 19 with fail
                          refine wp_region_vd 31 [110, 111, 112, 113, 114, 115, 116, 117, 118, 119, 120, 121, 122, 123, 124, 125, 126, 127, 128, 129, 130, 131, 132, 133, 134, 135, 136, 137, 138, 139, 140] [0, 1, 2, 6, 7, 8, 9, 10, 11, 12, 13, 14, 15, 16, 17, 18, 20, 21, 25, 26, 27, 28, 30] [] 84 [.int .i64 0, .int .i64 0] [isV (.int .i64 eK), isV (.bool false), isV (.bool false), isV undef, isV undef, isV undef, isV (.bool false), isV (.bool false), isV (.int .i64 eK), isV (.bool false), isV (.bool false), isV (.bool false), isV (.int .i64 eK), isV (.bool true), isV (.bool true), isV (.bool true), isV (.int .i64 eK), isV (.bool false), isV (.pointer (some ⟨g13, 0, none⟩)), isV (.int .i64 Wd), isV (.bool false), isV (.bool false), isV undef, isV undef, isV undef, isV (.bool false), isV (.bool true), isV (.bool true), isV (.bool true), isV (.bool true), isV (.bool true)] (by rfl) alloc_Z ?_ ?_
                          · intro qi qh qA aa wx hb hs hd
                            match qi, qh, qA with
                            | 0, _, _ => exact .inl ⟨rfl, op_mv rfl (hs 8 rfl)⟩
                            | 1, _, _ => exact .inl ⟨rfl, pure_b (bool_eq (decide_eq_false (by have h9 := HE0.out; omega))) (⟨_, op_eqlE rfl (hd 0 rfl) rfl, rfl⟩)⟩
                            | 2, _, _ => exact .inl ⟨rfl, op_mv rfl (hd 1 rfl)⟩
                            | 3, _, _ => exact .inr ⟨⟨rfl, .inl (hd 2 rfl)⟩, rfl⟩
                            | 4, _, _ => exact .inr ⟨⟨rfl, .inl (hd 2 rfl)⟩, rfl⟩
                            | 5, _, _ => exact .inr ⟨⟨rfl, .inl (hd 2 rfl)⟩, rfl⟩
                            | 6, _, _ => exact .inl ⟨rfl, ⟨_, op_pickF rfl (hd 2 rfl) rfl, rfl⟩⟩
                            | 7, _, _ => exact .inl ⟨rfl, op_mv rfl (hd 6 rfl)⟩
                            | 8, _, _ => exact .inl ⟨⟨rfl, .inl (hd 7 rfl)⟩, op_mv rfl (hs 8 rfl)⟩
                            | 9, _, _ => exact .inl ⟨⟨rfl, .inl (hd 7 rfl)⟩, pure_b (bool_eq (decide_eq_false (by have h9 := HE0.out; omega))) (⟨_, op_eqlE rfl (hd 8 rfl) rfl, rfl⟩)⟩
                            | 10, _, _ => exact .inl ⟨rfl, ⟨_, op_pickF rfl (hd 7 rfl) (hd 9 rfl), rfl⟩⟩
                            | 11, _, _ => exact .inl ⟨rfl, op_mv rfl (hd 10 rfl)⟩
                            | 12, _, _ => exact .inl ⟨⟨rfl, .inl (hd 11 rfl)⟩, op_mv rfl (hs 8 rfl)⟩
                            | 13, _, _ => exact .inl ⟨⟨rfl, .inl (hd 11 rfl)⟩, pure_b (bool_eq (decide_eq_true HE0.out)) (⟨_, op_eqlE rfl (hd 12 rfl) rfl, rfl⟩)⟩
                            | 14, _, _ => exact .inl ⟨rfl, ⟨_, op_pickF rfl (hd 11 rfl) (hd 13 rfl), rfl⟩⟩
                            | 15, _, _ => exact .inl ⟨rfl, op_mv rfl (hd 14 rfl)⟩
                            | 16, _, _ => exact .inl ⟨⟨rfl, .inl (hd 15 rfl)⟩, op_mv rfl (hs 8 rfl)⟩
                            | 17, _, _ => exact .inl ⟨⟨rfl, .inl (hd 15 rfl)⟩, pure_b (bool_eq (decide_eq_false (by have h9 := HE0.out; omega))) (⟨_, op_eqlE rfl (hd 16 rfl) rfl, rfl⟩)⟩
                            | 18, _, _ => exact .inl ⟨⟨rfl, .inl (hd 15 rfl)⟩, ⟨_, op_faT0 rfl (hs 13 rfl), rfl⟩⟩
                            | 19, _, _ => exact .inl ⟨⟨rfl, .inl (hd 15 rfl)⟩, op_ldI rfl rfl (hd 18 rfl) ((HE.out.to hb).cell 2 0 rfl rfl)⟩
                            | 20, _, _ => exact .inl ⟨⟨rfl, .inl (hd 15 rfl)⟩, pure_b (bool_eq (decide_eq_false hw6)) (⟨_, op_leqI rfl (hd 19 rfl) rfl, rfl⟩)⟩
                            | 21, _, _ => exact .inl ⟨⟨rfl, .inl (hd 15 rfl)⟩, op_mv rfl (hd 20 rfl)⟩
                            | 22, _, _ => exact .inr ⟨⟨rfl, .inl (hd 21 rfl)⟩, rfl⟩
                            | 23, _, _ => exact .inr ⟨⟨rfl, .inl (hd 21 rfl)⟩, rfl⟩
                            | 24, _, _ => exact .inr ⟨⟨rfl, .inl (hd 21 rfl)⟩, rfl⟩
                            | 25, _, _ => exact .inl ⟨⟨rfl, .inl (hd 15 rfl)⟩, ⟨_, op_pickF rfl (hd 21 rfl) rfl, rfl⟩⟩
                            | 26, _, _ => exact .inl ⟨⟨rfl, .inl (hd 15 rfl)⟩, pure_b (bool_eq rfl) (⟨_, op_eqlB rfl (hd 17 rfl) (hd 25 rfl), rfl⟩)⟩
                            | 27, _, _ => exact .inl ⟨rfl, ⟨_, op_pickT rfl (hd 15 rfl) (hd 26 rfl), rfl⟩⟩
                            | 28, _, _ => exact .inl ⟨rfl, op_mv rfl (hd 27 rfl)⟩
                            | 29, _, _ => exact .inl ⟨⟨rfl, .inl (hd 28 rfl)⟩, op_call0 rfl rfl Try.call18 (awake_got _)⟩
                            | 30, _, _ => exact .inl ⟨rfl, ⟨_, op_pickT rfl (hd 28 rfl) (hd 29 rfl), rfl⟩⟩
                            | qi + 31, h, _ => omega
                          · intro vs X10 hb hv hal hne
                            have HL0 := Hd.mk (HE.out.lt)
                            have HBW := HB
                            replace HB := Hd.mk (bel_then HB.out hb)
                            replace HE : Hd (Env X10 [⟨w.heap.size, 24, [.int .i64 Wd, .int .i64 Ht, .slice (some ad) xs.length k]⟩, ⟨w.heap.size + 1, 26, [.int .i64 x, .int .i64 y, .int .i64 t, .bool f]⟩, ⟨g13, 27, [.int .i64 Wd, .int .i64 (2 * Ht), .slice A72 ((xs ++ xs).length) k72]⟩]) := ⟨HE.out.to hb⟩
                            have HLS := HL0
                            replace HM := Hd.mk (HM.out.to hb)
                            have e140 : vs 140 = .bool true := hv 30 (by decide) rfl
                            simp only [putAll, List.foldl_cons, List.foldl_nil, Act.put, List.setIfInBounds_toArray, List.set_cons_succ, List.set_cons_zero, List.drop_succ_cons, List.drop_zero, e140]
                            generalize vs 110 = s110
                            generalize vs 111 = s111
                            generalize vs 112 = s112
                            generalize vs 113 = s113
                            generalize vs 114 = s114
                            generalize vs 115 = s115
                            generalize vs 116 = s116
                            generalize vs 117 = s117
                            generalize vs 118 = s118
                            generalize vs 119 = s119
                            generalize vs 120 = s120
                            generalize vs 121 = s121
                            generalize vs 122 = s122
                            generalize vs 123 = s123
                            generalize vs 124 = s124
                            generalize vs 125 = s125
                            generalize vs 126 = s126
                            generalize vs 127 = s127
                            generalize vs 128 = s128
                            generalize vs 129 = s129
                            generalize vs 130 = s130
                            generalize vs 131 = s131
                            generalize vs 132 = s132
                            generalize vs 133 = s133
                            generalize vs 134 = s134
                            generalize vs 135 = s135
                            generalize vs 136 = s136
                            generalize vs 137 = s137
                            generalize vs 138 = s138
                            generalize vs 139 = s139
                            clear hv hal hne hb HL0 HBW HLS e140
                            go_wp2_with fail
                            go_ret
                            exact ⟨_, rfl, HB.out, rfl⟩
end Go.Proofs.Ytddbmckbankmeaa
