/- Part 26 of the texts behind this claim. -/
import Derived.Test.YtddbmckbankmeaaGreatKb1
import Derived.Test.YtddbmckbankmeaaGreatKb14
import Derived.Test.YtddbmckbankmeaaGreatKb15
import Derived.Test.YtddbmckbankmeaaGreatKb17
import Derived.Test.YtddbmckbankmeaaGreatKb18
import Derived.Test.YtddbmckbankmeaaGreatKb19
import Derived.Test.YtddbmckbankmeaaGreatKb24
import Derived.Test.YtddbmckbankmeaaGreatKb25
set_option linter.unusedVariables false
set_option linter.unusedSimpArgs false
namespace Go.Proofs.YtddbmckbankmeaaGreat
open Go.RowKit
theorem cmpL_cons (a : Int) (xs ys : List Int) : cmpL (a :: xs) (a :: ys) = cmpL xs ys := by rw [cmpL, if_pos (cmpI_zero.2 rfl)]
theorem cmpI_less {x y : Int} (h : x < y) : cmpI x y = -1 := if_pos h
theorem cmpI_more {x y : Int} (h : y < x) : cmpI x y = 1 := by unfold cmpI; rw [if_neg (by omega), if_pos h]
theorem ri_grown {w w' : World} {A : Option Addr} {xs : List Int} {r : Option Nat} (h : RI w A xs) (hg : w.grownBy w' r) (hne : ∀ ad, A = some ad → ∀ z, r = some z → z ≠ ad.block) : RI w' A xs := fun hn => by
 obtain ⟨ad, e, hc⟩ := h hn; refine ⟨ad, e, fun j hj => ?_⟩; have hlt := World.block_lt_of_cell? w _ (hc j hj); rw [block_of_add] at hlt; have hk : w'.cell? (ad.add j) = w.cell? (ad.add j) := World.cell?_of_block (by rw [block_of_add]; exact hg.block _ hlt (fun er => hne ad e _ er.symm rfl)); rw [hk]; exact hc j hj
theorem op_litO2 {Q : Exit → Act → World → Prop} {o : Oper} {a : Act} {w : World} {d : Nat} {x1 x2 : Operand} {n1 n2 : Int} (ho : o.op = .buildSlice 41 2 #[(0, x1), (1, x2)]) (hd : o.dst = some d) (h1 : a.eval x1 = .int .i64 n1) (h2 : a.eval x2 = .int .i64 n2) (lo : Nat) (hl : lo ≤ w.heap.size) :
  o.wp Tryz.prog a w (Post a w d (isIs lo [n1, n2]).p) Q := by
 have key : (execOp a.eval o).run Tryz.prog w = .ok (.value (.slice (some ⟨w.heap.size, 0, none⟩) 2 2)) (w.alloc (.cells (ints [n1, n2]).toArray 3)) := by
  generalize a.eval = ev at h1 h2 ⊢; unfold execOp; simp only [ho]; simp [go_sem, ints, h1, h2]
 unfold Oper.wp; rw [key]; simp only [Oper.upon, hd]; exact ⟨_, rfl, below_alloc (Below.refl _ _) _, rfl, .inr ⟨w.heap.size, 2, _, rfl, hl, heap_alloc_new w _, Nat.le_refl _, by unfold maxLen; omega, rfl, rfl⟩⟩
set_option maxRecDepth 100000 in
set_option maxHeartbeats 1000000 in
theorem Order_got (Wd Ht : Int) (s1 s0 : Sl) (w : World) (hr1 : RI w s1.A s1.xs) (hr0 : RI w s0.A s0.xs) (hle : s1.xs.length = s0.xs.length) (hl0 : 0 < s0.xs.length) (hl1 : s1.xs.length ≤ 1000) (hl2 : s0.xs.length ≤ 1000) :
  Calls Tryz.prog 45 #[.agg #[.int .i64 Wd, .int .i64 Ht, .slice s1.A s1.xs.length s1.k], .agg #[.int .i64 Wd, .int .i64 Ht, .slice s0.A s0.xs.length s0.k]] w (Got w (isV (.int .i64 (cmpL s1.xs s0.xs))).p) := by
 obtain ⟨s1d, hd1, _⟩ := hr1 (by omega); obtain ⟨s0d, hd0, _⟩ := hr0 (by omega); rw [hd1, hd0]; rw [hd1] at hr1; rw [hd0] at hr0; have HRs1 := Hd.mk hr1; have HRs0 := Hd.mk hr0; have HLE := Hd.mk hle; clear hr1 hr0 hd1 hd0 hle; go_enter Tryz.func45, Tryz.ntmps45
 go_upto_region 1 with fail
 obtain ⟨W0, hW0⟩ : ∃ W : World, W = (w.alloc (.cells #[.int .i64 Wd, .int .i64 Ht, .slice (some s1d) s1.xs.length s1.k] 45)).alloc (.cells #[.int .i64 Wd, .int .i64 Ht, .slice (some s0d) s0.xs.length s0.k] 45) := ⟨_, rfl⟩; rw [← hW0]; obtain ⟨he, hb⟩ := env_two hW0; have HE := Hd.mk he; have HB := Hd.mk hb; clear he hb hW0; have HLO : Hd (w.heap.size + 2 ≤ W0.heap.size) := ⟨(HE.out.get 1 rfl).lt⟩; obtain ⟨i0, hi0, hz0, hz1, hz2⟩ := info_parts Tryz.info_int; refine wp_region_vd 7 [8, 9, 10, 11, 12, 13, 14] [0, 2, 5] [] 63 [.int .i64 0, .int .i64 0] [isV (.pointer (some ⟨w.heap.size, 0, none⟩)), qI Wd, isV (.pointer (some ⟨w.heap.size, 1, none⟩)), qI Ht, isIs W0.heap.size ([Wd, Ht]), isV (.pointer (some ⟨w.heap.size, 2, none⟩)), isV (.slice (some s1d) s1.xs.length s1.k)] (by rfl) alloc_Z ?_ ?_
 ·intro qi qh qA aa wx hb hs hd
  match qi, qh, qA with
  | 0, _, _ => exact aL ⟨_, op_faU0 rfl (hs 2 rfl), rfl⟩ | 1, _, _ => exact aL (op_ldI rfl rfl (hd 0 rfl) ((HE.out.to hb).cell 0 0 rfl rfl)) | 2, _, _ => exact aL ⟨_, op_faU1 rfl (hs 2 rfl), rfl⟩ | 3, _, _ => exact aL (op_ldI rfl rfl (hd 2 rfl) ((HE.out.to hb).cell 0 1 rfl rfl)) | 4, _, _ => exact aL (op_litO2 rfl rfl (hd 1 rfl) (hd 3 rfl) _ hb.size) | 5, _, _ => exact aL ⟨_, op_faU2 rfl (hs 2 rfl), rfl⟩ | 6, _, _ => exact aL (op_ldS rfl rfl (hd 5 rfl) ((HE.out.to hb).cell 0 2 rfl rfl)) | qi + 7, h, _ => omega
 intro vs X1 hb hv hal hne; replace HB := Hd.mk (bel_then HB.out hb); replace HE := Hd.mk (HE.out.to hb); have HSZ := Hd.mk hb.size; have HO : Hd (OwnI W0.heap.size X1 (vs 12) ([Wd, Ht])) := ⟨hv 4 (by decide) rfl⟩; obtain ⟨A12, k12, e12⟩ := own_lenI HO.out; rw [e12] at HO; have e14 : vs 14 = .slice (some s1d) s1.xs.length s1.k := hv 6 (by decide) rfl; simp only [PA, e12, e14]; clear hv hal hne hb e12 e14; have HLS2 : Hd (W0.heap.size ≤ X1.heap.size) := ⟨HSZ.out⟩; refine wpList_append_any _ rfl (.tmp 12) (.tmp 14) 41 rfl W0.heap.size 3 i0 (.int .i64 0) 1 8 Tryz.underlying41 hi0 hz0 hz1 hz2 rfl (by decide) (Value.slice A12 [Wd, Ht].length k12) 2 (ints [Wd, Ht]) rfl HO.out _ (some s1d) s1.xs.length s1.k (ints s1.xs) rfl (ri_row (HRs1.out.to HB.out)) (by intro u hu; obtain ⟨x, _, rfl⟩ := List.mem_map.1 hu; rfl) (by unfold maxLen; omega) (by omega) (Nat.le_trans (Nat.le_refl _) HLS2.out) ?_; intro v1 w1 hown1 hg1 _
 have HOX : OwnI W0.heap.size w1 v1 (Wd :: Ht :: s1.xs) := by
  have h := hown1; unfold OwnI; rw [show (Wd :: Ht :: s1.xs).length = 2 + s1.xs.length by simp; omega]; exact h
 have HB1 := HB.out.grown hg1 (Nat.le_trans (Nat.le_add_right _ 2) (Nat.le_trans HLO.out HLS2.out)) (fun z hz => Nat.le_trans (Nat.le_add_right _ 2) (Nat.le_trans HLO.out (HO.out.lt z hz).1))
 have HE1 := Env.grownBy_ HE.out hg1 (fun e he hz => by
  have h1 := Nat.le_trans HLO.out (HO.out.lt e.g hz.symm).1; rcases List.mem_cons.1 he with rfl | he
  ·exact absurd h1 (by simp)
  rw [List.mem_singleton.1 he] at h1
  exact absurd h1 (by simp))
 obtain ⟨A1, k1, rfl, hrx, _, hx3, hx4⟩ := OwnI.cl HOX; have HRX := Hd.mk hrx; replace HB := Hd.mk HB1; replace HE := Hd.mk HE1; clear HB1 HE1 hown1 hg1 HOX HO hrx; have hlx : (Wd :: Ht :: s1.xs).length = s1.xs.length + 2 := rfl; rw [hlx]; rw [hlx] at hx3; clear hlx; obtain ⟨xa, rfl⟩ : ∃ ad, A1 = some ad := by obtain ⟨ad, e, _⟩ := HRX.out (by simp); exact ⟨ad, e⟩
 go_wp2_with fail
 go_loopw [17] (fun s17 wr => ∃ i : Nat, i ≤ s1.xs.length + 2 ∧ s17 = .int .i64 i ∧ (∀ q : Nat, q < i → (Wd :: Ht :: s1.xs).getD q 0 = (Wd :: Ht :: s0.xs).getD q 0) ∧ Env wr [⟨w.heap.size, 45, [.int .i64 Wd, .int .i64 Ht, .slice (some s1d) s1.xs.length s1.k]⟩, ⟨w.heap.size + 1, 45, [.int .i64 Wd, .int .i64 Ht, .slice (some s0d) s0.xs.length s0.k]⟩] ∧ RI wr (some xa) (Wd :: Ht :: s1.xs) ∧ Below w.heap.size w wr) (fun s17 _ => s1.xs.length + 2 - (intOf s17).toNat)
 case atStart => exact ⟨0, Nat.zero_le _, rfl, (fun q hq => by omega), HE.out, HRX.out, HB.out⟩
 case round =>
  obtain ⟨i, hi, rfl, hz, he, hrx, hb⟩ := hrel; clear HB HE HRX HLO HLS2; have HB := Hd.mk hb; have HZ := Hd.mk hz; have HRX := Hd.mk hrx; have HE : Hd (Env wr [⟨w.heap.size, 45, [.int .i64 Wd, .int .i64 Ht, .slice (some s1d) s1.xs.length s1.k]⟩, ⟨w.heap.size + 1, 45, [.int .i64 Wd, .int .i64 Ht, .slice (some s0d) s0.xs.length s0.k]⟩]) := ⟨he⟩; clear he hz hrx hb; by_cases hj : i < s1.xs.length + 2
  ·obtain ⟨xi, hxi⟩ : ∃ z, z = (Wd :: Ht :: s1.xs).getD i 0 := ⟨_, rfl⟩; obtain ⟨yi, hyi⟩ : ∃ z, z = (Wd :: Ht :: s0.xs).getD i 0 := ⟨_, rfl⟩; have HXI := Hd.mk hxi; have HYI := Hd.mk hyi; clear hxi hyi; have HJX : Hd (i < (Wd :: Ht :: s1.xs).length) := ⟨hj⟩; have hi2 : i < s0.xs.length + 2 := by rw [← HLE.out]; exact hj
   go_upto_region 3 with fail
   refine wp_region_vd 3 [19, 20, 21] [0] [] 63 [.int .i64 0, .int .i64 0] [qI ((i : Nat) : Int), isV (.pointer (some (xa.add ((i : Int)).toNat))), qI xi] (by rfl) alloc_Z ?_ ?_
   ·intro qi qh qA aa wx hb hs hd
    match qi, qh, qA with
    | 0, _, _ => exact aL (op_mv rfl (hs 17 rfl)) | 1, _, _ => exact aL (op_run rfl (op_idx (by omega) (by omega) rfl (hs 15 rfl) (hs 17 rfl) _) rfl) | 2, _, _ => exact aL (op_ldAt rfl rfl (hd 1 rfl) (by rw [HXI.out]; exact (HRX.out.to hb).cellq HJX.out)) | qi + 3, h, _ => omega
   intro vs X1 hb hv hal hne; replace HB := Hd.mk (bel_then HB.out hb); replace HE := Hd.mk (HE.out.to hb); have HSZ := Hd.mk hb.size; replace HRX := Hd.mk (HRX.out.to hb); have e19 : vs 19 = .int .i64 (((i : Nat) : Int)) := hv 0 (by decide) rfl; have e21 : vs 21 = .int .i64 xi := hv 2 (by decide) rfl; simp only [PA, e19, e21]; clear hv hal hne hb e19 e21; have HLO : Hd (w.heap.size + 2 ≤ X1.heap.size) := ⟨(HE.out.get 1 rfl).lt⟩
   have HXL : Hd (xa.block < X1.heap.size) := ⟨by
    obtain ⟨_, e, hc⟩ := HRX.out (by simp); cases e
    have := World.block_lt_of_cell? _ _ (hc 0 (by simp))
    rwa [block_of_add] at this⟩
   go_upto_region 4 with fail
   refine wp_region_vd 7 [22, 23, 24, 25, 26, 27, 28] [0, 2, 5] [] 63 [.int .i64 0, .int .i64 0] [isV (.pointer (some ⟨w.heap.size + 1, 0, none⟩)), qI Wd, isV (.pointer (some ⟨w.heap.size + 1, 1, none⟩)), qI Ht, isIs X1.heap.size ([Wd, Ht]), isV (.pointer (some ⟨w.heap.size + 1, 2, none⟩)), isV (.slice (some s0d) s0.xs.length s0.k)] (by rfl) alloc_Z ?_ ?_
   ·intro qi qh qA aa wx hb hs hd
    match qi, qh, qA with
    | 0, _, _ => exact aL ⟨_, op_faU0 rfl (hs 3 rfl), rfl⟩ | 1, _, _ => exact aL (op_ldI rfl rfl (hd 0 rfl) ((HE.out.to hb).cell 1 0 rfl rfl)) | 2, _, _ => exact aL ⟨_, op_faU1 rfl (hs 3 rfl), rfl⟩ | 3, _, _ => exact aL (op_ldI rfl rfl (hd 2 rfl) ((HE.out.to hb).cell 1 1 rfl rfl)) | 4, _, _ => exact aL (op_litO2 rfl rfl (hd 1 rfl) (hd 3 rfl) _ hb.size) | 5, _, _ => exact aL ⟨_, op_faU2 rfl (hs 3 rfl), rfl⟩ | 6, _, _ => exact aL (op_ldS rfl rfl (hd 5 rfl) ((HE.out.to hb).cell 1 2 rfl rfl)) | qi + 7, h, _ => omega
   intro vs X2 hb hv hal hne; replace HB := Hd.mk (bel_then HB.out hb); replace HE := Hd.mk (HE.out.to hb); have HSZ := Hd.mk hb.size; replace HRX := Hd.mk (HRX.out.to hb); have HO : Hd (OwnI X1.heap.size X2 (vs 26) ([Wd, Ht])) := ⟨hv 4 (by decide) rfl⟩; obtain ⟨A26, k26, e26⟩ := own_lenI HO.out; rw [e26] at HO; have e28 : vs 28 = .slice (some s0d) s0.xs.length s0.k := hv 6 (by decide) rfl; simp only [PA, e26, e28]; clear hv hal hne hb e26 e28; have HLS2 : Hd (X1.heap.size ≤ X2.heap.size) := ⟨HSZ.out⟩; refine wpList_append_any _ rfl (.tmp 26) (.tmp 28) 41 rfl X1.heap.size 3 i0 (.int .i64 0) 1 8 Tryz.underlying41 hi0 hz0 hz1 hz2 rfl (by decide) (Value.slice A26 [Wd, Ht].length k26) 2 (ints [Wd, Ht]) rfl HO.out _ (some s0d) s0.xs.length s0.k (ints s0.xs) rfl (ri_row (HRs0.out.to HB.out)) (by intro u hu; obtain ⟨x, _, rfl⟩ := List.mem_map.1 hu; rfl) (by unfold maxLen; omega) (by omega) (Nat.le_trans (Nat.le_refl _) HLS2.out) ?_; intro v1 w1 hown1 hg1 _
   have HOX : OwnI X1.heap.size w1 v1 (Wd :: Ht :: s0.xs) := by
    have h := hown1; unfold OwnI; rw [show (Wd :: Ht :: s0.xs).length = 2 + s0.xs.length by simp; omega]; exact h
   have HB1 := HB.out.grown hg1 (Nat.le_trans (Nat.le_add_right _ 2) (Nat.le_trans HLO.out HLS2.out)) (fun z hz => Nat.le_trans (Nat.le_add_right _ 2) (Nat.le_trans HLO.out (HO.out.lt z hz).1))
   have HE1 := Env.grownBy_ HE.out hg1 (fun e he hz => by
    have h1 := Nat.le_trans HLO.out (HO.out.lt e.g hz.symm).1; rcases List.mem_cons.1 he with rfl | he
    ·exact absurd h1 (by simp)
    rw [List.mem_singleton.1 he] at h1
    exact absurd h1 (by simp))
   obtain ⟨A2, k2, rfl, hry, _, hy3, hy4⟩ := OwnI.cl HOX; replace HB := Hd.mk HB1; replace HE := Hd.mk HE1; have hly : (Wd :: Ht :: s0.xs).length = s0.xs.length + 2 := rfl; rw [hly]; rw [hly] at hy3; clear HB1 HE1 hown1 HOX hly; obtain ⟨yd, hyd, hcy⟩ := hry.at_ (k := i) hi2; subst hyd; rw [← HYI.out] at hcy
   have HRX1 : Hd (RI w1 (some xa) (Wd :: Ht :: s1.xs)) := ⟨ri_grown HRX.out hg1 (fun ad e z hz => by
    cases e
    have h1 := (HO.out.lt z hz).1; have h2 := HXL.out
    omega)⟩
   clear hry hg1 HO; by_cases hxy : xi = yi
   ·subst hxy; go_wp2_with fail
    go_roundw
    case rel => exact ⟨i + 1, by omega, by go_num, (fun q hq => by
     by_cases e : q = i
     ·rw [e, ← HXI.out, ← HYI.out]
     exact HZ.out q (by omega)), HE.out, HRX1.out, HB.out⟩
    case measure => simp [intOf]; omega
   have HC : Hd (cmpL s1.xs s0.xs = cmpI xi yi) := ⟨by
    have h := cmpL_hit (Wd :: Ht :: s1.xs) (Wd :: Ht :: s0.xs) i HZ.out hj hi2 (by rw [← HXI.out, ← HYI.out]; exact fun e => hxy (cmpI_zero.1 e)); rw [cmpL_cons, cmpL_cons, ← HXI.out, ← HYI.out] at h
    exact h⟩
   have hne : (xi != yi) = true := by simp [hxy]
   by_cases hlt : xi < yi
   ·have HC2 := Hd.mk (HC.out.trans (cmpI_less hlt)); clear hxy; go_wp2_with fail
    go_ret
    exact ⟨_, rfl, HB.out, by rw [HC2.out]; rfl⟩
   have HC2 := Hd.mk (HC.out.trans (cmpI_more (by omega))); clear hxy; go_wp2_with fail
   go_ret
   exact ⟨_, rfl, HB.out, by rw [HC2.out]; rfl⟩
  have e1 : i = s1.xs.length + 2 := by omega
  have HC : Hd (cmpL s1.xs s0.xs = 0) := ⟨by
   have h := cmpL_same (Wd :: Ht :: s1.xs) (Wd :: Ht :: s0.xs) (by rw [show (Wd :: Ht :: s1.xs).length = s1.xs.length + 2 from rfl, ← e1]; exact HZ.out) (by simp [HLE.out]); rw [cmpL_cons, cmpL_cons] at h
   exact h⟩
  clear e1; go_wp2_with fail
  go_ret
  exact ⟨_, rfl, HB.out, by rw [HC.out]; rfl⟩
section
variable {Q : Exit → Act → World → Prop} {o : Oper} {a : Act} {w w' : World} {d g j n k i lo : Nat} {x y : Operand} {t : TypeId} {W H : Int} {ts : List Sl} {rest ys_ : List Value} {s : Sl} {ys : List Int}
theorem op_idxU {b : Nat} (h1 : j < n) (ho : o.op = .indexAddr 39 x y) (hx : a.eval x = .slice (some ⟨g, b, none⟩) n k) (hy : a.eval y = .int .i64 (j : Int)) (w : World) : (execOp a.eval o).run Tryz.prog w = .ok (.value (.pointer (some ⟨g, b + j * 3, none⟩))) w := by
 have e : (⟨g, b, none⟩ : Addr).add (j * 3) = ⟨g, b + j * 3, none⟩ := by unfold Addr.add; split <;> simp_all
 generalize a.eval = ev at hx hy ⊢; unfold execOp; simp only [ho, hx, hy]; simp [go_sem, h1, e]
theorem op_ldvU {A : Option Addr} {m c q : Nat} (ho : o.op = .load 45 x) (hd : o.dst = some d) (hx : a.eval x = .pointer (some ⟨g, q, none⟩))
  (h : w.cell? ⟨g, q, none⟩ = some (.int .i64 W) ∧ w.cell? ⟨g, q + 1, none⟩ = some (.int .i64 H) ∧ w.cell? ⟨g, q + 2, none⟩ = some (.slice A m c)) :
  o.wp Tryz.prog a w (Post a w d (isV (.agg #[.int .i64 W, .int .i64 H, .slice A m c])).p) Q := by
 obtain ⟨h0, h1, h2⟩ := h; refine op_load (v := .agg #[.int .i64 W, .int .i64 H, .slice A m c]) ho hd hx ?_ rfl; simp [go_sem, h0, h1, h2]
theorem op_lenU {A : Option Addr} (ho : o.op = .call { callee := .builtin .len, args := #[x], argTypes := #[39] }) (hd : o.dst = some d) (hx : a.eval x = .slice A n k) : o.wp Tryz.prog a w (Post a w d (isV (.int .i64 ((n : Nat) : Int))).p) Q := by
 refine op_run (v := .int .i64 (n : Int)) hd ?_ rfl; generalize a.eval = ev at hx ⊢; unfold execOp; simp only [ho]; simp [go_sem, hx]
def OwnU (lo : Nat) (w : World) (v : Value) (W H : Int) (ts : List Sl) : Prop := w.ownsRow lo 45 3 v ts.length (ts.flatMap (encT W H))
theorem OwnU.to {v : Value} (h : OwnU lo w v W H ts) (hb : Below w.heap.size w w') : OwnU lo w' v W H ts := own_to h hb
theorem OwnU.lt {v : Value} (h : OwnU lo w v W H ts) : ∀ k, v.ownBlock = some k → lo ≤ k ∧ k < w.heap.size := World.ownsRow.lt h
theorem OwnU.blk {v : Value} (h : OwnU lo w v W H ts) : ∀ g, v.ownBlock = some g → ∃ t us, Blk w g t us ∧ t ≠ 3 := fun g e => by
 rcases h.2 with ⟨rfl, _⟩ | ⟨g', cap, cur, rfl, hlo, hg, _⟩
 ·cases e
 injection e with e
 obtain rfl : g' = g := e; exact ⟨_, cur.toList, hg, by decide⟩
end
section
variable {w w' : World} {lo g o : Nat} {W H : Int} {ts : List Sl} {t : TypeId} {us vs : List Value}
theorem OwnU.put {v : Value} (h : OwnU lo w v W H ts) (hlt : ∀ k, v.ownBlock = some k → k < g) : OwnU lo (putL w g o vs) v W H ts := own_put hlt h
end
theorem Tryz.info_rstamp : (Tryz.prog.info? 45).map (fun i => (i.zero, i.size, i.bytes)) = some (some (.agg #[.int .i64 0, .int .i64 0, .slice none 0 0]), 3, 40) := by kernel_rfl
section
variable {w w' : World} {lo g : Nat} {W H : Int} {ts us : List Sl} {v : Value} {t : TypeId} {cs : List Value} {A : Option Addr} {k n q size B : Nat} {xs : List Value}
theorem Reads.take (h : Reads w B size A n xs) (hk : q ≤ n) : Reads w B size A q (xs.take (q * size)) := by
 refine ⟨?_, fun hn => ?_⟩
 ·rw [List.length_take, h.1]; exact Nat.min_eq_left (Nat.mul_le_mul_right _ hk)
 obtain ⟨ad, e, hb, hc⟩ := h.2 (by omega); refine ⟨ad, e, hb, fun j u hu => hc j u ?_⟩; rw [List.getElem?_take] at hu; split at hu
 ·exact hu
 cases hu
theorem OwnU.cl (h : OwnU lo w v W H ts) : ∃ A k, v = .slice A ts.length k ∧ ts.length ≤ k ∧ k ≤ 9223372036854775807 ∧ (A = none → ts.length = 0 ∧ k = 0) := by
 rcases h.2 with ⟨rfl, hn⟩ | ⟨g, cap, cur, rfl, hlo, hg, hnc, hcm, _⟩
 ·exact ⟨none, 0, by rw [hn], by omega, by omega, fun _ => ⟨hn, rfl⟩⟩
 exact ⟨_, cap, rfl, hnc, hcm, fun e => by cases e⟩
theorem OwnU.row (h : OwnU lo w v W H ts) (hne : ts ≠ []) : ∃ g cap rest, v = .slice (some ⟨g, 0, none⟩) ts.length cap ∧ lo ≤ g ∧ Blk w g 45 (ts.flatMap (encT W H) ++ rest) ∧ ts.length ≤ cap ∧ cap ≤ maxLen := by
 rcases h.2 with ⟨_, hn⟩ | ⟨g, cap, cur, rfl, hlo, hg, hnc, hcm, hcs, htk⟩
 ·exact absurd (List.eq_nil_of_length_eq_zero hn) hne
 refine ⟨g, cap, cur.toList.drop (ts.length * 3), rfl, hlo, ?_, hnc, hcm⟩; rw [← htk, List.take_append_drop]; exact hg
theorem OwnU.ld (h : OwnU lo w (.slice A n k) W H ts) {j : Nat} {s : Sl} (hj : ts[j]? = some s) : ∃ g, A = some ⟨g, 0, none⟩ ∧ w.cell? ⟨g, j * 3, none⟩ = some (.int .i64 W) ∧ w.cell? ⟨g, j * 3 + 1, none⟩ = some (.int .i64 H) ∧ w.cell? ⟨g, j * 3 + 2, none⟩ = some (.slice s.A s.xs.length s.k) := by
 have hne : ts ≠ [] := fun e => by rw [e] at hj; cases hj
 obtain ⟨g, cap, rest, e, _, hb, _⟩ := h.row hne; injection e with e
 exact ⟨g, e, tcell_ld hb hj⟩
theorem OwnU.some_ (h : OwnU lo w (.slice A n k) W H ts) {j : Nat} {s : Sl} (hj : ts[j]? = some s) : ∃ g, A = some ⟨g, 0, none⟩ := let ⟨g, e, _⟩ := h.ld hj; ⟨g, e⟩
theorem OwnU.ne (h : OwnU lo w v W H ts) (hne : ts ≠ []) (hb : Blk w g t []) : ∀ r, v.ownBlock = some r → r ≠ g := fun r hr e => by
 obtain ⟨g', cap, rest, rfl, _, hb', _⟩ := h.row hne; injection hr with hr
 have e2 : g' = g := hr.trans e; subst e2; unfold Blk at hb hb'; rw [hb] at hb'; injection hb' with hb'
 injection hb' with hc _ _
 have := congrArg Array.size hc
 cases ts with
 | nil => exact hne rfl
 | cons a l => simp [encT] at this
theorem OwnU.by_ {r : Option Nat} (h : OwnU lo w v W H ts) (hg : w.grownBy w' r) (hne : ∀ z, r = some z → ∀ y, v.ownBlock = some y → z ≠ y) : OwnU lo w' v W H ts := by
 refine ⟨h.1, ?_⟩; rcases h.2 with hn | ⟨g', cap, cur, rfl, hb, hgg, rest⟩
 ·exact .inl hn
 exact .inr ⟨g', cap, cur, rfl, hb, (hg.block g' (Array.getElem?_eq_some_iff.1 hgg).1 (fun e => hne g' e.symm g' rfl rfl)).trans hgg, rest⟩
theorem OwnU.reads (h : OwnU lo w (.slice A ts.length k) W H ts) : Reads w w.heap.size 3 A ts.length (ts.flatMap (encT W H)) := Reads.of_own h
theorem OwnU.lower {lo' : Nat} (h : lo ≤ lo') (ho : OwnU lo' w v W H ts) : OwnU lo w v W H ts := by
 refine ⟨ho.1, ?_⟩; rcases ho.2 with hn | ⟨g', cap, cur, rfl, hb, hgg, rest⟩
 ·exact .inl hn
 exact .inr ⟨g', cap, cur, rfl, by omega, hgg, rest⟩
end
section
variable {Q : Exit → Act → World → Prop} {o : Oper} {a : Act} {w : World} {d g n k i lo m c : Nat} {x y : Operand} {W H : Int} {us vs : List Sl} {A : Option Addr} {v0 : Value} {R : Act → World → Prop}
end
def isUs (lo : Nat) (W H : Int) (xss : List (List Int)) : SP := ⟨fun v w => ∃ g k rest ts, v = .slice (some ⟨g, 0, none⟩) ts.length k ∧ ts.map Sl.xs = xss ∧ lo ≤ g ∧ Blk w g 45 (ts.flatMap (encT W H) ++ rest) ∧ OkT w ts,
 fun v w w' h hb => by
  obtain ⟨g, k, rest, ts, h1, h2, h3, h4, h5⟩ := h
  exact ⟨g, k, rest, ts, h1, h2, h3, h4.to hb, h5.to hb⟩⟩
theorem rGroup_i {Wd Ht : Int} {A : Option Addr} {k : Nat} {ms : List Mv} {w : World} (hs : sizeB Wd Ht = true) (hrm : RdM w A ms) (hln : ms.length ≤ 9223372036854775807) :
  Calls Tryz.prog 8 #[.int .i64 Wd, .int .i64 Ht, .slice A ms.length k] w (Got w (isV (.bool (rGB Wd.toNat Ht.toNat ms))).p) := by
 obtain ⟨Wn, Hn, rfl, rfl, hs'⟩ := size_nat hs; exact rGroup_got Wn Hn A k ms w hrm hln hs'
theorem gB_take {Wd Ht : Int} (hs : sizeB Wd Ht = true) (ms : List Mv) : gB Wd Ht (ms.take 521) = rGB Wd.toNat Ht.toNat ms := by
 obtain ⟨Wn, Hn, rfl, rfl, hs'⟩ := size_nat hs; exact group_same hs' ms
theorem got_us {f lo lo' : Nat} {vs : Array Value} {w : World} {W H : Int} {xss : List (List Int)} (h : lo ≤ lo') (hc : Calls Tryz.prog f vs w (Got w (isUs lo' W H xss).p)) : Calls Tryz.prog f vs w (Got w (isUs lo W H xss).p) :=
 hc.mono fun e w' ⟨v, h1, h2, g, k, rest, ts, h4, h5, h6, h7⟩ => ⟨v, h1, h2, g, k, rest, ts, h4, h5, Nat.le_trans h h6, h7⟩
end Go.Proofs.YtddbmckbankmeaaGreat
set_option linter.unusedVariables false
set_option linter.unusedSimpArgs false
set_option linter.unnecessarySimpa false
namespace Go.Proofs.YtddbmckbankmeaaGreat
section
variable {α β : Type}
theorem sum_fibersW (D : DecidableEq β) (f : α → β) (g : α → Nat) {Z : List β} (hn : Z.Nodup) : ∀ (l : List α), (∀ x ∈ l, f x ∈ Z) → (Z.map fun z => ((l.filter fun x => decide (f x = z)).map g).sum).sum = (l.map g).sum
 | [], _ => by
  have : ∀ L : List β, (L.map fun _ => 0).sum = 0 := fun L => by induction L with
   | nil => rfl
   | cons y L ih => rw [List.map_cons, List.sum_cons, ih]
  simpa using this Z
 | x :: l, h => by
  have e : (Z.map fun z => (((x :: l).filter fun x => decide (f x = z)).map g).sum) = Z.map fun z => (g x * if f x = z then 1 else 0) + ((l.filter fun x => decide (f x = z)).map g).sum := by
   refine List.map_congr_left fun z _ => ?_
   rw [List.filter_cons]; by_cases e : f x = z
   ·rw [if_pos (by simpa using e), if_pos e, List.map_cons, List.sum_cons]; omega
   rw [if_neg (by simpa using e), if_neg e]; omega
  have hm : ∀ (c : Nat) (q : β → Nat) (L : List β), (L.map fun z => c * q z).sum = c * (L.map q).sum := by
   intro c q L
   induction L with
   | nil => simp
   | cons y L ih => rw [List.map_cons, List.map_cons, List.sum_cons, List.sum_cons, ih, Nat.mul_add]
  rw [e, sum_add, hm, count_one D (f x) hn (h x (by simp)), sum_fibersW D f g hn l (fun y hy => h y (by simp [hy])), List.map_cons, List.sum_cons]; omega
theorem zero_sum (L : List β) : (L.map fun _ => 0).sum = 0 := by
 induction L with
 | nil => rfl
 | cons y L ih => rw [List.map_cons, List.sum_cons, ih]
theorem filter_sum (q : β → Bool) (Z : List β) : (Z.filter q).length = (Z.map fun z => if q z then 1 else 0).sum := by
 induction Z with
 | nil => rfl
 | cons y Z ih =>
  rw [List.filter_cons, List.map_cons, List.sum_cons]; by_cases e : q y = true
  ·rw [if_pos e, if_pos e, List.length_cons, ih]; omega
  rw [if_neg e, if_neg e, ih]; omega
theorem sum_swap (q : α → β → Bool) (l : List α) (Z : List β) : (l.map fun x => (Z.filter (q x)).length).sum = (Z.map fun z => (l.filter fun x => q x z).length).sum := by
 induction l with
 | nil => simpa using (zero_sum Z).symm
 | cons x l ih =>
  have e : (Z.map fun z => ((x :: l).filter fun x => q x z).length) = Z.map fun z => (if q x z then 1 else 0) + (l.filter fun x => q x z).length := by
   refine List.map_congr_left fun z _ => ?_
   rw [List.filter_cons]; by_cases e : q x z = true
   ·rw [if_pos e, if_pos e, List.length_cons]; omega
   rw [if_neg e, if_neg e]; omega
  rw [e, sum_add, List.map_cons, List.sum_cons, ih, filter_sum]
theorem same_len (D : DecidableEq α) {l m : List α} (hl : l.Nodup) (hm : m.Nodup) (h : ∀ x, x ∈ l ↔ x ∈ m) : l.length = m.length :=
 Nat.le_antisymm (len_sub D hl fun x hx => (h x).1 hx) (len_sub D hm fun x hx => (h x).2 hx)
end
def itr (f : Nat → Nat) : Nat → Nat → Nat
 | 0, i => i
 | t + 1, i => f (itr f t i)
def IsCyc (f : Nat → Nat) (N n : Nat) : Prop := ∃ lab root : Nat → Nat, (∀ j, j < N → lab j < n ∧ lab (f j) = lab j ∧ ∃ t, itr f t (root (lab j)) = j) ∧ ∀ k, k < n → root k < N ∧ lab (root k) = k
def KeptBy (f : Nat → Nat) (N : Nat) (xs : List Int) : Prop := ∀ j, j < N → xs.getD (f j) 0 = xs.getD j 0
theorem itr_lt {f : Nat → Nat} {N : Nat} (hf : ∀ j, j < N → f j < N) {i : Nat} (hi : i < N) : ∀ t, itr f t i < N
 | 0 => hi
 | t + 1 => hf _ (itr_lt hf hi t)
theorem kept_itr {f : Nat → Nat} {N : Nat} (hf : ∀ j, j < N → f j < N) {xs : List Int} (h : KeptBy f N xs) {i : Nat} (hi : i < N) : ∀ t, xs.getD (itr f t i) 0 = xs.getD i 0
 | 0 => rfl
 | t + 1 => (h _ (itr_lt hf hi t)).trans (kept_itr hf h hi t)
theorem getD_map_range {g : Nat → Int} {N j : Nat} (hj : j < N) : ((List.range N).map g).getD j 0 = g j := by
 rw [List.getD_eq_getElem?_getD, List.getElem?_map, List.getElem?_range hj]; rfl
theorem col_at {K N : Nat} {xs : List Int} (h : Col K N xs) {j : Nat} (hj : j < N) : 0 ≤ xs.getD j 0 ∧ xs.getD j 0 < K := by
 rw [List.getD_eq_getElem?_getD, List.getElem?_eq_getElem (by rw [h.1]; exact hj)]; exact h.2 _ (List.getElem_mem _)
theorem ext_getD {xs ys : List Int} {N : Nat} (hx : xs.length = N) (hy : ys.length = N) (h : ∀ j, j < N → xs.getD j 0 = ys.getD j 0) : xs = ys := by
 refine List.ext_getElem (by rw [hx, hy]) fun j h1 h2 => ?_
 have := h j (by omega); rw [List.getD_eq_getElem?_getD, List.getD_eq_getElem?_getD, List.getElem?_eq_getElem h1, List.getElem?_eq_getElem h2] at this; exact this
open Classical in
theorem kept_count {f : Nat → Nat} {N n K : Nat} (hf : ∀ j, j < N → f j < N) (hK : 0 < K) (hc : IsCyc f N n) : ((allC K N).filter fun xs => decide (KeptBy f N xs)).length = K ^ n := by
 obtain ⟨lab, root, h1, h2⟩ := hc; have h3 : (allC K n).length = K ^ n := by unfold allC; rw [List.length_map, List.length_range]
 have h4 : ((allC K n).map fun ys : List Int => (List.range N).map fun j => ys.getD (lab j) 0).length = K ^ n := by rw [List.length_map]; exact h3
 rw [← h4]; refine same_len (inferInstanceAs (DecidableEq (List Int))) ((allC_nodup hK).filter _) (nodup_map (allC_nodup hK) fun a ha b hb e => ?_) fun xs => ?_
 ·have ca := (mem_allC hK).1 ha; have cb := (mem_allC hK).1 hb; refine ext_getD ca.1 cb.1 fun k hk => ?_
  obtain ⟨hr, hl⟩ := h2 k hk; have e1 := congrArg (fun l : List Int => l.getD (root k) 0) e; simp only [getD_map_range hr, hl] at e1; exact e1
 rw [List.mem_filter, List.mem_map, decide_eq_true_eq, mem_allC hK]; constructor
 ·rintro ⟨hcx, hk⟩; refine ⟨(List.range n).map fun k => xs.getD (root k) 0, (mem_allC hK).2 ⟨by simp, fun y hy => ?_⟩, ?_⟩
  ·obtain ⟨k, hk, rfl⟩ := List.mem_map.1 hy; exact col_at hcx (h2 k (List.mem_range.1 hk)).1
  refine ext_getD (by simp) hcx.1 fun j hj => ?_
  obtain ⟨hl, _, t, ht⟩ := h1 j hj; rw [getD_map_range hj, getD_map_range hl, ← kept_itr hf hk (h2 _ hl).1 t, ht]
 rintro ⟨ys, hy, rfl⟩; have cy := (mem_allC hK).1 hy; refine ⟨⟨by simp, fun x hx => ?_⟩, fun j hj => ?_⟩
 ·obtain ⟨j, hj, rfl⟩ := List.mem_map.1 hx; exact col_at cy (h1 j (List.mem_range.1 hj)).1
 rw [getD_map_range (hf j hj), getD_map_range hj, (h1 j hj).2.1]
structure Cy (f : Nat → Nat) (N : Nat) (s : List Bool) (n : Nat) : Prop where
 len : s.length = N
 fwd : ∀ j, j < N → s.getD j false = true → s.getD (f j) false = true
 bwd : ∀ j, j < N → s.getD (f j) false = true → s.getD j false = true
 ex : ∃ lab root : Nat → Nat, (∀ j, j < N → s.getD j false = true → lab j < n ∧ lab (f j) = lab j ∧ ∃ t, itr f t (root (lab j)) = j) ∧ ∀ k, k < n → root k < N ∧ lab (root k) = k ∧ s.getD (root k) false = true
structure Cw (f : Nat → Nat) (N : Nat) (s0 : List Bool) (i t : Nat) (s : List Bool) (c : Nat) : Prop where
 at_ : c = itr f t i
 len : s.length = N
 mem : ∀ j, j < N → (s.getD j false = true ↔ s0.getD j false = true ∨ ∃ u, u < t ∧ itr f u i = j)
 new : ∀ u, u < t → s0.getD (itr f u i) false = false
 dis : ∀ v, v < t → ∀ u, u < v → itr f u i ≠ itr f v i
section
variable {f : Nat → Nat} {N n i t c : Nat} {s s0 : List Bool}
theorem Cy.start (f : Nat → Nat) (N : Nat) : Cy f N (List.replicate N false) 0 := by
 have h0 : ∀ j, (List.replicate N false).getD j false = false := fun j => by
  rw [List.getD_eq_getElem?_getD, List.getElem?_replicate]; split <;> rfl
 exact ⟨by simp, fun j _ h => (by rw [h0] at h; cases h), fun j _ h => (by rw [h0] at h; cases h), fun _ => 0, fun _ => 0, fun j _ h => (by rw [h0] at h; cases h), fun k hk => by omega⟩
theorem Cy.all (h : Cy f N s n) (ha : ∀ j, j < N → s.getD j false = true) : IsCyc f N n := by
 obtain ⟨lab, root, h1, h2⟩ := h.ex; exact ⟨lab, root, fun j hj => h1 j hj (ha j hj), fun k hk => ⟨(h2 k hk).1, (h2 k hk).2.1⟩⟩
theorem Cw.start (h : Cy f N s n) : Cw f N s i 0 s i := ⟨rfl, h.len, fun j _ => by simp, fun u hu => by omega, fun v hv => by omega⟩
theorem set_getD_b (hc : c < s.length) (j : Nat) : (s.set c true).getD j false = if j = c then true else s.getD j false := by
 rw [List.getD_eq_getElem?_getD, List.getElem?_set, List.getD_eq_getElem?_getD]; by_cases h : c = j
 ·subst h; rw [if_pos rfl, if_pos rfl, if_pos hc]; rfl
 rw [if_neg h, if_neg (Ne.symm h)]
theorem Cw.step (hf : ∀ j, j < N → f j < N) (hi : i < N) (h : Cw f N s0 i t s c) (hc : s.getD c false = false) : Cw f N s0 i (t + 1) (s.set c true) (f c) := by
 have hcN : c < N := by rw [h.at_]; exact itr_lt hf hi t
 have h0 : s0.getD c false = false := by
  cases e : s0.getD c false with
  | false => rfl
  | true => rw [(h.mem c hcN).2 (.inl e)] at hc; cases hc
 refine ⟨by rw [h.at_]; rfl, by simp [h.len], fun j hj => ?_, fun u hu => ?_, fun v hv u hu => ?_⟩
 ·rw [set_getD_b (by rw [h.len]; exact hcN)]; constructor
  ·intro hs; by_cases e : j = c
   ·exact .inr ⟨t, by omega, by rw [e, h.at_]⟩
   rw [if_neg e] at hs; rcases (h.mem j hj).1 hs with h1 | ⟨u, hu, e2⟩
   ·exact .inl h1
   exact .inr ⟨u, by omega, e2⟩
  intro hs; by_cases e : j = c
  ·rw [if_pos e]
  rw [if_neg e]; refine (h.mem j hj).2 ?_; rcases hs with h1 | ⟨u, hu, e2⟩
  ·exact .inl h1
  rcases Nat.lt_or_ge u t with hut | hut
  ·exact .inr ⟨u, hut, e2⟩
  obtain rfl : u = t := by omega
  exact absurd (by rw [← e2, h.at_]) e
 ·rcases Nat.lt_or_ge u t with hut | hut
  ·exact h.new u hut
  obtain rfl : u = t := by omega
  rw [← h.at_]; exact h0
 rcases Nat.lt_or_ge v t with hvt | hvt
 ·exact h.dis v hvt u hu
 obtain rfl : v = t := by omega
 intro e; rw [← h.at_] at e; rw [(h.mem c hcN).2 (.inr ⟨u, hu, e⟩)] at hc; cases hc
theorem Cw.pos (h : Cw f N s0 i t s c) (h0 : s0.getD i false = false) (hi : i < N) (hc : s.getD c false = true) : 0 < t := by
 rcases Nat.eq_zero_or_pos t with rfl | h1
 ·have e : c = i := h.at_; subst e; rcases (h.mem c hi).1 hc with h2 | ⟨u, hu, _⟩
  ·rw [h0] at h2; cases h2
  omega
 exact h1
theorem Cw.back (hf : ∀ j, j < N → f j < N) (hinj : ∀ a b, a < N → b < N → f a = f b → a = b) (hy : Cy f N s0 n) (h : Cw f N s0 i t s c) (hi : i < N) (h0 : s0.getD i false = false) (hc : s.getD c false = true) : itr f t i = i := by
 have ht := h.pos h0 hi hc; have hcN : c < N := by rw [h.at_]; exact itr_lt hf hi t
 obtain ⟨r, rfl⟩ : ∃ r, t = r + 1 := ⟨t - 1, by omega⟩; have hrN := itr_lt hf hi r; rcases (h.mem c hcN).1 hc with h1 | ⟨u, hu, e⟩
 ·rw [h.at_] at h1; have h2 := hy.bwd _ hrN h1; rw [h.new r (by omega)] at h2; cases h2
 rcases Nat.eq_zero_or_pos u with rfl | hu0
 ·rw [← h.at_]; exact e.symm
 obtain ⟨v, rfl⟩ : ∃ v, u = v + 1 := ⟨u - 1, by omega⟩; rw [h.at_] at e; have := hinj _ _ (itr_lt hf hi v) hrN e; exact absurd this (h.dis r (by omega) v (by omega))
theorem Cw.done (hf : ∀ j, j < N → f j < N) (hy : Cy f N s0 n) (h : Cw f N s0 i t s c) (hi : i < N) (h0 : s0.getD i false = false) (hc : s.getD c false = true) (hinj : ∀ a b, a < N → b < N → f a = f b → a = b) : Cy f N s (n + 1) ∧ s.getD i false = true ∧ ∀ j, j < N → s0.getD j false = true → s.getD j false = true := by
 have hb := h.back hf hinj hy hi h0 hc; have ht := h.pos h0 hi hc; obtain ⟨lab, root, h1, h2⟩ := hy.ex; have him : s.getD i false = true := (h.mem i hi).2 (.inr ⟨0, ht, rfl⟩); refine ⟨?_, him, fun j hj h3 => (h.mem j hj).2 (.inl h3)⟩; refine ⟨h.len, fun j hj hs => ?_, fun j hj hs => ?_, fun j => if s0.getD j false = true then lab j else n, fun k => if k = n then i else root k, fun j hj hs => ?_, fun k hk => ?_⟩
 ·refine (h.mem _ (hf j hj)).2 ?_; rcases (h.mem j hj).1 hs with h3 | ⟨u, hu, e⟩
  ·exact .inl (hy.fwd j hj h3)
  rcases Nat.lt_or_ge (u + 1) t with h4 | h4
  ·exact .inr ⟨u + 1, h4, by rw [itr, e]⟩
  obtain rfl : t = u + 1 := by omega
  exact .inr ⟨0, ht, by rw [show itr f 0 i = i from rfl, ← e]; exact hb.symm⟩
 ·refine (h.mem _ hj).2 ?_; rcases (h.mem _ (hf j hj)).1 hs with h3 | ⟨u, hu, e⟩
  ·exact .inl (hy.bwd j hj h3)
  rcases Nat.eq_zero_or_pos u with rfl | hu0
  ·obtain ⟨r, rfl⟩ : ∃ r, t = r + 1 := ⟨t - 1, by omega⟩; refine .inr ⟨r, by omega, hinj _ _ (itr_lt hf hi r) hj ?_⟩; rw [← e]; exact hb
  obtain ⟨v, rfl⟩ : ∃ v, u = v + 1 := ⟨u - 1, by omega⟩; exact .inr ⟨v, by omega, hinj _ _ (itr_lt hf hi v) hj e⟩
 ·rcases (h.mem j hj).1 hs with h3 | ⟨u, hu, e⟩
  ·obtain ⟨a1, a2, u, a3⟩ := h1 j hj h3; have h4 := hy.fwd j hj h3; dsimp only
   rw [if_pos h3, if_pos h4, if_neg (by omega)]; exact ⟨by omega, a2, u, a3⟩
  have h3 : s0.getD j false = false := by rw [← e]; exact h.new u hu
  have h4 : s0.getD (f j) false = false := by
   cases h5 : s0.getD (f j) false with
   | false => rfl
   | true => rw [hy.bwd j hj h5] at h3; cases h3
  have h3' : ¬ s0.getD j false = true := by rw [h3]; simp
  have h4' : ¬ s0.getD (f j) false = true := by rw [h4]; simp
  dsimp only
  rw [if_neg h3', if_neg h4', if_pos rfl]; exact ⟨by omega, rfl, u, e⟩
 have h0' : ¬ s0.getD i false = true := by rw [h0]; simp
 dsimp only
 by_cases hkn : k = n
 ·rw [if_pos hkn, if_neg h0']; exact ⟨hi, hkn.symm, him⟩
 rw [if_neg hkn]; obtain ⟨b1, b2, b3⟩ := h2 k (by omega); rw [if_pos b3]; exact ⟨b1, b2, (h.mem _ b1).2 (.inl b3)⟩
theorem count_set_b : ∀ {s : List Bool} {c : Nat}, c < s.length → s.getD c false = false → (s.set c true).count false < s.count false
 | [], c, h, _ => by simp at h
 | b :: s, 0, _, h => by
  have : b = false := h; subst this; simp
 | b :: s, c + 1, h, h2 => by
  have := count_set_b (s := s) (c := c) (by simpa using h) (by simpa using h2); rw [List.set_cons_succ, List.count_cons, List.count_cons]; omega
theorem Cw.run (hf : ∀ j, j < N → f j < N) (hi : i < N) : ∀ (k : Nat) {s : List Bool} {t c : Nat}, s.count false ≤ k → Cw f N s0 i t s c → ∃ t s c, Cw f N s0 i t s c ∧ s.getD c false = true
 | k, s, t, c, hk, h => by
  cases hc : s.getD c false with
  | true => exact ⟨t, s, c, h, hc⟩
  | false =>
   have hcN : c < s.length := by rw [h.len, h.at_]; exact itr_lt hf hi t
   have hlt := count_set_b hcN hc
   match k with
   | 0 => omega | k + 1 => exact Cw.run hf hi k (by omega) (h.step hf hi hc)
theorem cyc_ex (hf : ∀ j, j < N → f j < N) (hinj : ∀ a b, a < N → b < N → f a = f b → a = b) : ∃ n, IsCyc f N n := by
 have key : ∀ i, i ≤ N → ∃ s n, Cy f N s n ∧ ∀ j, j < i → s.getD j false = true := by
  intro i
  induction i with
  | zero => intro _; exact ⟨_, _, Cy.start f N, fun j hj => by omega⟩
  | succ i ih =>
   intro hi; obtain ⟨s, n, hy, hs⟩ := ih (by omega)
   cases h0 : s.getD i false with
   | true =>
    refine ⟨s, n, hy, fun j hj => ?_⟩; rcases Nat.lt_or_ge j i with h | h
    ·exact hs j h
    obtain rfl : j = i := by omega
    exact h0
   | false =>
    obtain ⟨t, s', c, hw, hc⟩ := Cw.run hf (show i < N by omega) _ (Nat.le_refl _) (Cw.start (i := i) hy); obtain ⟨h1, h2, h3⟩ := hw.done hf hy (by omega) h0 hc hinj; refine ⟨s', n + 1, h1, fun j hj => ?_⟩; rcases Nat.lt_or_ge j i with h | h
    ·exact h3 j (by omega) (hs j h)
    obtain rfl : j = i := by omega
    exact h2
 obtain ⟨s, n, hy, hs⟩ := key N (Nat.le_refl _); exact ⟨n, hy.all hs⟩
end
def piM (W H : Int) (m : Mv) (j : Nat) : Nat := (cellM W H m j).toNat
def fixN (W H : Int) (K N : Nat) (m : Mv) : Nat := ((allC K N).filter fun xs => decide (apM W H m xs = xs)).length
def cyN (W H : Int) (N : Nat) (m : Mv) : Nat := Nat.log2 (fixN W H 2 N m)
section
variable {W H : Int} {ms : List Mv} {m : Mv} {xs : List Int} {K N n : Nat}
theorem pi_cell (h : Al W H m) (j : Nat) : ((piM W H m j : Nat) : Int) = cellM W H m j := Int.toNat_of_nonneg (cell_lt h j).1
theorem pi_lt (h : Al W H m) (hN : (N : Int) = W * H) : ∀ j, j < N → piM W H m j < N := fun j _ => by
 have h1 := cell_lt h j; have h2 := pi_cell h j; omega
theorem pi_inj (h : Al W H m) (hN : (N : Int) = W * H) : ∀ a b, a < N → b < N → piM W H m a = piM W H m b → a = b := fun a b ha hb e => by
 have h1 := inv_cell h (i := a) (by omega); have h2 := inv_cell h (i := b) (by omega); have h3 : cellM W H m a = cellM W H m b := by rw [← pi_cell h a, ← pi_cell h b, e]
 rw [h3, h2] at h1; omega
theorem kept_iff (h : Al W H m) (hl : xs.length = N) (hN : (N : Int) = W * H) : KeptBy (piM W H m) N xs ↔ apM W H m xs = xs := by
 have hl' : (xs.length : Int) = W * H := by rw [hl]; exact hN
 constructor
 ·intro hk; refine ext_getD (N := N) (by rw [apM_length, hl]) hl fun i hi => ?_
  have hc := cell_lt (inv_al h) (i : Int); obtain ⟨j, hj⟩ : ∃ j : Nat, (j : Int) = cellM W H (invM W H m) i := ⟨_, Int.toNat_of_nonneg hc.1⟩
  have e : piM W H m j = i := by
   have h1 := cell_inv h (i := i) (by omega); have h2 := pi_cell h j; rw [hj, h1] at h2; omega
  have hjN : j < N := by omega
  have h3 := apM_at h hl' (j := j) (by omega); have h4 := hk j hjN; rw [e] at h4; rw [show (cellM W H m j).toNat = i from e, Int.toNat_natCast] at h3; rw [h3, h4]
 intro e j hj; have h3 := apM_at h hl' (j := j) (by omega); rw [e, Int.toNat_natCast] at h3; exact h3
open Classical in
theorem fix_pow (h : Al W H m) (hN : (N : Int) = W * H) (hK : 0 < K) (hc : IsCyc (piM W H m) N n) : fixN W H K N m = K ^ n := by
 rw [← kept_count (pi_lt h hN) hK hc]; unfold fixN; congr 1
 refine List.filter_congr fun xs hx => ?_
 have h1 := kept_iff h ((mem_allC hK).1 hx).1 hN; by_cases e : apM W H m xs = xs
 ·rw [decide_eq_true e, decide_eq_true (h1.2 e)]
 rw [decide_eq_false e, decide_eq_false fun k => e (h1.1 k)]
theorem cyc_eq (h : Al W H m) (hN : (N : Int) = W * H) (hc : IsCyc (piM W H m) N n) : cyN W H N m = n := by
 unfold cyN; rw [fix_pow h hN (by omega) hc, Nat.log2_two_pow]
theorem fix_cy (h : Al W H m) (hN : (N : Int) = W * H) (hK : 0 < K) : fixN W H K N m = K ^ cyN W H N m := by
 obtain ⟨n, hn⟩ := cyc_ex (pi_lt h hN) (pi_inj h hN); rw [fix_pow h hN hK hn, cyc_eq h hN hn]
theorem cy_le (h : Al W H m) (hN : (N : Int) = W * H) : cyN W H N m ≤ N := by
 have h1 := fix_cy (K := 2) h hN (by omega)
 have h2 : fixN W H 2 N m ≤ 2 ^ N := by
  have h3 : (allC 2 N).length = 2 ^ N := by unfold allC; rw [List.length_map, List.length_range]
  rw [← h3]; exact List.length_filter_le _ _
 rw [h1] at h2; exact (Nat.pow_le_pow_iff_right (by omega)).1 h2
theorem burnside (g : Gp W H ms) (hs : sizeB W H = true) (hN : (N : Int) = W * H) (hK : 0 < K) (hK8 : K ≤ 8) : (ms.map fun m => K ^ cyN W H N m).sum = ms.length * (listL W H ms K N).length := by
 have e1 : (ms.map fun m => K ^ cyN W H N m) = ms.map fun m => ((allC K N).filter fun xs => decide (apM W H m xs = xs)).length := List.map_congr_left fun m hm => (fix_cy (g.al m hm) hN hK).symm
 rw [e1, sum_swap (fun m xs => decide (apM W H m xs = xs)) ms (allC K N)]; rw [← sum_fibersW (inferInstanceAs (DecidableEq (List Int))) (fun x => leastL W H x ms) (fun xs => (ms.filter fun m => decide (apM W H m xs = xs)).length) (listL_nodup W H ms N hK) (allC K N) (fun x hx => least_list g hs hN hK hK8 ((mem_allC hK).1 hx))]; refine sum_const _ fun z hz => ?_
 obtain ⟨hcz, hrz⟩ := (mem_listL hK).1 hz; have hvz := col_valid hs hN hK8 hcz; have hlz := (rep_iff g hvz).1 hrz; have hno : (orbL W H z ms).Nodup := (orb_rises W H z ms).imp (fun {a b} h e => by rw [e, cmpL_refl] at h; omega)
 have hmem : ∀ x, x ∈ (allC K N).filter (fun x => decide (leastL W H x ms = z)) → Col K N x ∧ orbL W H x ms = orbL W H z ms := fun x hx => by
  obtain ⟨h3, h4⟩ := List.mem_filter.1 hx; rw [decide_eq_true_eq] at h4; have hcx := (mem_allC hK).1 h3; have hvx := col_valid hs hN hK8 hcx; have hz2 : z ∈ orbL W H x ms := by rw [← h4]; exact least_mem (List.length_pos_of_mem g.one)
  exact ⟨hcx, (orb_orb g hvx hz2).symm⟩
 have hlen : ((allC K N).filter (fun x => decide (leastL W H x ms = z))).length = (orbL W H z ms).length := by
  refine same_len (inferInstanceAs (DecidableEq (List Int))) ((allC_nodup hK).filter _) hno fun x => ⟨fun hx => ?_, fun hx => ?_⟩
  ·obtain ⟨hcx, e⟩ := hmem x hx; rw [← e]; exact orb_self g (col_valid hs hN hK8 hcx)
  refine List.mem_filter.2 ⟨(mem_allC hK).2 (orb_col g hN hcz hx), ?_⟩; rw [decide_eq_true_eq, orb_least g hvz hx, hlz]
 have hpos : 0 < (orbL W H z ms).length := List.length_pos_of_mem (orb_self g hvz)
 have hsum : ∀ L : List (List Int), (∀ x ∈ L, (ms.filter fun m => decide (apM W H m x = x)).length * (orbL W H z ms).length = ms.length) → (L.map fun xs => (ms.filter fun m => decide (apM W H m xs = xs)).length).sum * (orbL W H z ms).length = ms.length * L.length := by
  intro L
  induction L with
  | nil => intro _; simp
  | cons x L ih =>
   intro h; rw [List.map_cons, List.sum_cons, Nat.add_mul, ih (fun y hy => h y (by simp [hy])), h x (by simp), List.length_cons, Nat.mul_add, Nat.mul_one]; omega
 have h5 := hsum _ (fun x hx => by
  obtain ⟨hcx, e⟩ := hmem x hx; rw [← e]
  exact orbit_stab g (col_valid hs hN hK8 hcx))
 rw [hlen] at h5; exact Nat.eq_of_mul_eq_mul_right hpos h5
end
end Go.Proofs.YtddbmckbankmeaaGreat
set_option linter.unusedVariables false
set_option linter.unusedSimpArgs false
namespace Go.Proofs.YtddbmckbankmeaaGreat
open Go.RowKit
namespace Ex
def rawZ (z : Int) (A : Option Addr) (c : Nat) : Raw := ⟨decide (z < 0), A, c, dig z.natAbs⟩
theorem rawZ_at {z : Int} {A : Option Addr} {c : Nat} {w : World} (h : NN w A c z.natAbs) : (rawZ z A c).at_ w := ⟨h.1, dg_dig _, h.2.1, h.2.2⟩
theorem rawZ_val (z : Int) (A : Option Addr) (c : Nat) : (rawZ z A c).val = z := by
 unfold Raw.val rawZ; simp only [val_dig, decide_eq_true_eq]; split <;> omega
theorem rawZ_ok (z : Int) (A : Option Addr) (c : Nat) : (rawZ z A c).ok = decide (ln z.natAbs ≤ 256) := by
 have h0 : (rawZ z A c).ok = (decide (ln z.natAbs ≤ 256) && (!(decide (ln z.natAbs = 0) && decide (z < 0))) && (!(decide (0 < ln z.natAbs) && decide ((dig z.natAbs).getD (ln z.natAbs - 1) 0 = 0)))) := rfl
 have h1 : (!(decide (ln z.natAbs = 0) && decide (z < 0))) = true := by
  have := ln_eq_zero (n := z.natAbs); simp; omega
 have h2 : (!(decide (0 < ln z.natAbs) && decide ((dig z.natAbs).getD (ln z.natAbs - 1) 0 = 0))) = true := by
  by_cases h0 : 0 < ln z.natAbs
  ·have := dig_last z.natAbs (ln z.natAbs - 1) (by rw [dig_length]; omega); simp only [List.getD_eq_getElem?_getD] at this ⊢; simp [this]
  simp [h0]
 rw [h0, h1, h2]; simp
end Ex
def noU (us : List Value) : Bool := us.all fun v => match v with | .int .u32 _ => false | _ => true
theorem noU_at {us : List Value} (h : noU us = true) {q : Nat} {x : Int} : us[q]? ≠ some (.int .u32 x) := fun e => by
 unfold noU at h; rw [List.all_eq_true] at h; have := h _ (List.mem_of_getElem? e); cases this
structure NT (w : World) (A : Option Addr) (c n : Nat) : Prop where
 out : Ex.NN w A c n
section
variable {w w' : World} {A : Option Addr} {c n g o : Nat} {t : TypeId} {us vs : List Value}
theorem NT.to (h : NT w A c n) (hb : Below w.heap.size w w') : NT w' A c n := ⟨h.out.to hb⟩
theorem NT.by_ (h : NT w A c n) (hb : Blk w g t us) (hu : noU us = true) (hg : w.grownBy w' (some g)) : NT w' A c n := ⟨⟨fun hn => by
 obtain ⟨ad, e, hc⟩ := h.out.1 hn; refine ⟨ad, e, fun j hj => ?_⟩; have h1 := hc j hj; refine (World.cell?_of_block (hg.block _ (World.block_lt_of_cell? w _ h1) fun e2 => ?_)).trans h1; have e3 : (ad.add j).block = g := Option.some.inj e2
 have h2 : w.cell? (ad.add j) = us[(ad.add j).off]? := by
  have h3 := hb.cell (ad.add j).off; rw [← h3]
  have hs : (ad.add j).spot.isSome = false := by
   unfold World.cell? at h1; cases hq : (ad.add j).spot.isSome
   ·rfl
   rw [hq] at h1; split at h1 <;> simp at h1
  unfold World.cell?; simp only [e3]; simp [hs]
 rw [h1] at h2
 exact noU_at hu h2.symm, h.out.2⟩⟩
theorem NT.putB (h : NT w A c n) (hb : Blk w g t us) (hu : noU us = true := by rfl) : NT (putL w g o vs) A c n := h.by_ hb hu (putL_by vs w o)
end
def isI (z : Int) : SP := ⟨fun v w => ∃ A c, v = .agg #[.bool (decide (z < 0)), .slice A (Ex.ln z.natAbs) c] ∧ NT w A c z.natAbs, fun v w w' ⟨A, c, h1, h2⟩ hb => ⟨A, c, h1, h2.to hb⟩⟩
def isP3 (p q r : SP) : SP := ⟨fun v w => ∃ x y z, v = .tuple #[x, y, z] ∧ p.p x w ∧ q.p y w ∧ r.p z w, fun v w w' ⟨x, y, z, h1, h2, h3, h4⟩ hb => ⟨x, y, z, h1, p.st x w w' h2 hb, q.st y w w' h3 hb, r.st z w w' h4 hb⟩⟩
section
variable {P : Program} {f : FuncId} {vs : Array Value} {w : World} {z z2 err : Int}
theorem got_I (h : Calls P f vs w (Ex.RetZ z w)) : Calls P f vs w (Got w (isI z).p) := h.mono fun e w' ⟨A, c, h1, h2, h3⟩ => ⟨_, h1, h3, A, c, rfl, ⟨h2⟩⟩
theorem got_IE (h : Calls P f vs w (Ex.RetZE z err w)) : Calls P f vs w (Got w (isP (isI z) (isV (.int .i64 err))).p) := h.mono fun e w' ⟨A, c, h1, h2, h3⟩ => ⟨_, h1, h3, _, _, rfl, ⟨A, c, rfl, ⟨h2⟩⟩, rfl⟩
theorem got_II (h : Calls P f vs w (Ex.RetZZE z z2 err w)) : Calls P f vs w (Got w (isP3 (isI z) (isI z2) (isV (.int .i64 err))).p) := h.mono fun e w' ⟨A, c, A', c', h1, h2, h3, h4⟩ => ⟨_, h1, h4, _, _, _, rfl, ⟨A, c, rfl, ⟨h2⟩⟩, ⟨A', c', rfl, ⟨h3⟩⟩, rfl⟩
end
theorem ln_small {n k : Nat} (h : n < 4294967296 ^ k) : Ex.ln n ≤ k := Ex.ln_le h
section
variable {w : World} {v v2 : Value} {x y : Int}
theorem fromInt_got (x : Int) (w : World) (h1 : -9223372036854775808 ≤ x) (h2 : x ≤ 9223372036854775807) : Calls Tryz.prog 25 #[.int .i64 x] w (Got w (isI x).p) := got_I (Ex.FromInt_calls x w h1 h2)
theorem whole_got (x : Int) (w : World) (h1 : -9223372036854775808 ≤ x) (h2 : x ≤ 9223372036854775807) : Calls Tryz.prog 18 #[.int .i64 x] w (Got w (isI x).p) := got_I (Ex.Whole_calls x w h1 h2)
theorem pow_got (k : Nat) (hv : (isI x).p v w) (hx : Ex.ln x.natAbs ≤ 256) (hk : k ≤ 10000) (hl : Ex.ln (x ^ k).natAbs ≤ 256) : Calls Tryz.prog 24 #[v, .int .i64 (k : Int)] w (Got w (isP (isI (x ^ k)) (isV (.int .i64 0))).p) := by
 obtain ⟨A, c, rfl, hn⟩ := hv; have h := got_IE (Ex.Pow_calls (Ex.rawZ x A c) (k : Int) w (Ex.rawZ_at hn.out)); have ho : (Ex.rawZ x A c).ok = true := by rw [Ex.rawZ_ok]; exact decide_eq_true hx
 have e1 : Ex.powz (Ex.rawZ x A c) (k : Int) = x ^ k := by
  unfold Ex.powz; rw [if_pos ⟨ho, by omega, by omega⟩, Ex.rawZ_val, Int.toNat_natCast]; unfold Ex.fitz Ex.zpow; rw [if_pos hl]
 have e2 : Ex.powe (Ex.rawZ x A c) (k : Int) = 0 := by
  unfold Ex.powe; rw [if_pos ⟨ho, by omega, by omega⟩, Ex.rawZ_val, Int.toNat_natCast]; unfold Ex.fite Ex.zpow; rw [if_pos hl]
 rw [e1, e2] at h; exact h
theorem add_got (hv : (isI x).p v w) (hv2 : (isI y).p v2 w) (hx : Ex.ln x.natAbs ≤ 256) (hy : Ex.ln y.natAbs ≤ 256) (hl : Ex.ln (x + y).natAbs ≤ 256) : Calls Tryz.prog 27 #[v, v2] w (Got w (isP (isI (x + y)) (isV (.int .i64 0))).p) := by
 obtain ⟨A, c, rfl, hn⟩ := hv; obtain ⟨A', c', rfl, hn'⟩ := hv2; have h := got_IE (Ex.Add_calls (Ex.rawZ x A c) (Ex.rawZ y A' c') w (Ex.rawZ_at hn.out) (Ex.rawZ_at hn'.out)); have ho : ((Ex.rawZ x A c).ok && (Ex.rawZ y A' c').ok) = true := by rw [Ex.rawZ_ok, Ex.rawZ_ok, decide_eq_true hx, decide_eq_true hy]; rfl
 have e1 : Ex.opz (Ex.rawZ x A c) (Ex.rawZ y A' c') ((Ex.rawZ x A c).val + (Ex.rawZ y A' c').val) = x + y := by
  unfold Ex.opz; rw [if_pos ho, Ex.rawZ_val, Ex.rawZ_val]; unfold Ex.fitz; rw [if_pos hl]
 have e2 : Ex.ope (Ex.rawZ x A c) (Ex.rawZ y A' c') ((Ex.rawZ x A c).val + (Ex.rawZ y A' c').val) = 0 := by
  unfold Ex.ope; rw [if_pos ho, Ex.rawZ_val, Ex.rawZ_val]; unfold Ex.fite; rw [if_pos hl]
 rw [e1, e2] at h; exact h
theorem div_got (hv : (isI x).p v w) (hv2 : (isI y).p v2 w) (hx : Ex.ln x.natAbs ≤ 256) (hy : Ex.ln y.natAbs ≤ 256) (h0 : y ≠ 0) : Calls Tryz.prog 28 #[v, v2] w (Got w (isP3 (isI (x / y)) (isI (x % y)) (isV (.int .i64 0))).p) := by
 obtain ⟨A, c, rfl, hn⟩ := hv; obtain ⟨A', c', rfl, hn'⟩ := hv2; have h := got_II (Ex.Div_calls (Ex.rawZ x A c) (Ex.rawZ y A' c') w (Ex.rawZ_at hn.out) (Ex.rawZ_at hn'.out)); have ho : ((Ex.rawZ x A c).ok && (Ex.rawZ y A' c').ok) = true := by rw [Ex.rawZ_ok, Ex.rawZ_ok, decide_eq_true hx, decide_eq_true hy]; rfl
 have e1 : Ex.dvq (Ex.rawZ x A c) (Ex.rawZ y A' c') = x / y := by
  unfold Ex.dvq; rw [if_pos ⟨ho, by rw [Ex.rawZ_val]; exact h0⟩, Ex.rawZ_val, Ex.rawZ_val]
 have e2 : Ex.dvr (Ex.rawZ x A c) (Ex.rawZ y A' c') = x % y := by
  unfold Ex.dvr; rw [if_pos ⟨ho, by rw [Ex.rawZ_val]; exact h0⟩, Ex.rawZ_val, Ex.rawZ_val]
 have e3 : Ex.dve (Ex.rawZ x A c) (Ex.rawZ y A' c') = 0 := by
  unfold Ex.dve; rw [if_pos ho, if_neg (by rw [Ex.rawZ_val]; exact h0)]
 rw [e1, e2, e3] at h; exact h
theorem times_got (hv : (isI x).p v w) (hv2 : (isI y).p v2 w) (hx : Ex.ln x.natAbs ≤ 1000) (hy : Ex.ln y.natAbs ≤ 1000) : Calls Tryz.prog 41 #[v, v2] w (Got w (isI (x * y)).p) := by
 obtain ⟨A, c, rfl, hn⟩ := hv; obtain ⟨A', c', rfl, hn'⟩ := hv2; exact got_I (Ex.rTimes_calls x y A c A' c' w hn.out hn'.out (by omega) (by omega))
theorem plus_got (hv : (isI x).p v w) (hv2 : (isI y).p v2 w) (hx : Ex.ln x.natAbs ≤ 1000) (hy : Ex.ln y.natAbs ≤ 1000) : Calls Tryz.prog 42 #[v, v2] w (Got w (isI (x + y)).p) := by
 obtain ⟨A, c, rfl, hn⟩ := hv; obtain ⟨A', c', rfl, hn'⟩ := hv2; exact got_I (Ex.rPlus_calls x y A c A' c' w hn.out hn'.out (by omega) (by omega))
theorem exactly_got (hv : (isI x).p v w) (hv2 : (isI y).p v2 w) (hx : Ex.ln x.natAbs ≤ 1000) (hy : Ex.ln y.natAbs ≤ 1000) (h0 : y ≠ 0) : Calls Tryz.prog 44 #[v, v2] w (Got w (isI (x / y)).p) := by
 obtain ⟨A, c, rfl, hn⟩ := hv; obtain ⟨A', c', rfl, hn'⟩ := hv2; exact got_I (Ex.rExactly_calls x y A c A' c' w hn.out hn'.out h0 (by omega) (by omega))
theorem int_got (hv : (isI x).p v w) : Calls Tryz.prog 43 #[v] w (Got w (isI x).p) := by
 obtain ⟨A, c, rfl, hn⟩ := hv; exact (Ex.rInt_calls _ A _ c w).mono fun e w' h => ⟨_, h.1, h.2, A, c, rfl, hn.to h.2⟩
theorem of_got (hv : (isI x).p v w) : Calls Tryz.prog 17 #[v] w (Got w (isI x).p) := by
 obtain ⟨A, c, rfl, hn⟩ := hv; exact (Ex.rOf_calls _ A _ c w).mono fun e w' h => ⟨_, h.1, h.2, A, c, rfl, hn.to h.2⟩
theorem order_got (hv : (isI x).p v w) (hv2 : (isI y).p v2 w) (hx : Ex.ln x.natAbs ≤ 1000) (hy : Ex.ln y.natAbs ≤ 1000) : Calls Tryz.prog 16 #[v, v2] w (Got w (isV (.int .i64 (Ex.sgnv (x - y)))).p) := by
 obtain ⟨A, c, rfl, hn⟩ := hv; obtain ⟨A', c', rfl, hn'⟩ := hv2; exact (Ex.rOrder_calls x y A c A' c' w hn.out hn'.out (by omega) (by omega)).mono fun e w' h => ⟨_, h.1, h.2, rfl⟩
theorem Same_got (hv : (isI x).p v w) (hv2 : (isI y).p v2 w) : Calls Tryz.prog 9 #[v, v2] w (Got w (isV (.bool (decide (x = y)))).p) := by
 obtain ⟨A, c, rfl, hn⟩ := hv; obtain ⟨A', c', rfl, hn'⟩ := hv2; exact (Ex.same_calls x y A c A' c' w hn.out hn'.out).mono fun e w' h => ⟨_, h.1, h.2, rfl⟩
end
def isU (n : Nat) : SP := ⟨fun v w => ∃ A c, v = .agg #[.bool false, .slice A (Ex.ln n) c] ∧ NT w A c n, fun v w w' ⟨A, c, h1, h2⟩ hb => ⟨A, c, h1, h2.to hb⟩⟩
theorem isU_I {n : Nat} {v : Value} {w : World} (h : (isU n).p v w) : (isI (n : Int)).p v w := by
 obtain ⟨A, c, h1, h2⟩ := h; exact ⟨A, c, by rw [h1, decide_eq_false (by omega)]; rfl, h2⟩
theorem isI_U {n : Nat} {v : Value} {w : World} (h : (isI (n : Int)).p v w) : (isU n).p v w := by
 obtain ⟨A, c, h1, h2⟩ := h; rw [decide_eq_false (by omega)] at h1; exact ⟨A, c, h1, h2⟩
theorem nt_nil (w : World) : NT w none 0 0 := ⟨Ex.NN.nil _ _ _ (by omega)⟩
theorem ln_z : Ex.ln 0 = 0 := Ex.ln_zero
section
variable {P : Program} {f : FuncId} {vs : Array Value} {w : World} {n m : Nat} {q : SP}
theorem got_U (h : Calls P f vs w (Got w (isI (n : Int)).p)) : Calls P f vs w (Got w (isU n).p) := h.mono fun e w' ⟨v, h1, h2, h3⟩ => ⟨v, h1, h2, isI_U h3⟩
theorem got_UP (h : Calls P f vs w (Got w (isP (isI (n : Int)) q).p)) : Calls P f vs w (Got w (isP (isU n) q).p) := h.mono fun e w' ⟨v, h1, h2, x, y, h3, h4, h5⟩ => ⟨v, h1, h2, x, y, h3, isI_U h4, h5⟩
theorem got_U3 (h : Calls P f vs w (Got w (isP3 (isI (n : Int)) (isI (m : Int)) q).p)) : Calls P f vs w (Got w (isP3 (isU n) (isU m) q).p) := h.mono fun e w' ⟨v, h1, h2, x, y, z, h3, h4, h5, h6⟩ => ⟨v, h1, h2, x, y, z, h3, isI_U h4, isI_U h5, h6⟩
end
section
variable {w : World} {v v2 : Value} {x y : Nat}
theorem fromIntU (x : Nat) (w : World) (h : x ≤ 9223372036854775807) : Calls Tryz.prog 25 #[.int .i64 (x : Int)] w (Got w (isU x).p) := got_U (fromInt_got _ w (by omega) (by omega))
theorem wholeU (x : Nat) (w : World) (h : x ≤ 9223372036854775807) : Calls Tryz.prog 18 #[.int .i64 (x : Int)] w (Got w (isU x).p) := got_U (whole_got _ w (by omega) (by omega))
theorem powU (k : Nat) (hv : (isU x).p v w) (hx : Ex.ln x ≤ 256) (hk : k ≤ 10000) (hl : Ex.ln (x ^ k) ≤ 256) : Calls Tryz.prog 24 #[v, .int .i64 (k : Int)] w (Got w (isP (isU (x ^ k)) (isV (.int .i64 0))).p) := by
 have e : ((x : Int) ^ k) = ((x ^ k : Nat) : Int) := by simp
 have h := pow_got k (isU_I hv) hx hk (by rw [e]; exact hl); rw [e] at h; exact got_UP h
theorem addU (hv : (isU x).p v w) (hv2 : (isU y).p v2 w) (hx : Ex.ln x ≤ 256) (hy : Ex.ln y ≤ 256) (hl : Ex.ln (x + y) ≤ 256) : Calls Tryz.prog 27 #[v, v2] w (Got w (isP (isU (x + y)) (isV (.int .i64 0))).p) := got_UP (add_got (isU_I hv) (isU_I hv2) hx hy hl)
theorem divU (hv : (isU x).p v w) (hv2 : (isU y).p v2 w) (hx : Ex.ln x ≤ 256) (hy : Ex.ln y ≤ 256) (h0 : 0 < y) : Calls Tryz.prog 28 #[v, v2] w (Got w (isP3 (isU (x / y)) (isU (x % y)) (isV (.int .i64 0))).p) := got_U3 (div_got (isU_I hv) (isU_I hv2) hx hy (by omega))
theorem timesU (hv : (isU x).p v w) (hv2 : (isU y).p v2 w) (hx : Ex.ln x ≤ 256) (hy : Ex.ln y ≤ 256) : Calls Tryz.prog 41 #[v, v2] w (Got w (isU (x * y)).p) := by
 have h := times_got (isU_I hv) (isU_I hv2) (Nat.le_trans hx (by omega)) (Nat.le_trans hy (by omega)); rw [← Int.natCast_mul] at h; exact got_U h
theorem plusU (hv : (isU x).p v w) (hv2 : (isU y).p v2 w) (hx : Ex.ln x ≤ 256) (hy : Ex.ln y ≤ 256) : Calls Tryz.prog 42 #[v, v2] w (Got w (isU (x + y)).p) := got_U (plus_got (isU_I hv) (isU_I hv2) (Nat.le_trans hx (by omega)) (Nat.le_trans hy (by omega)))
theorem exactlyU (hv : (isU x).p v w) (hv2 : (isU y).p v2 w) (hx : Ex.ln x ≤ 256) (hy : Ex.ln y ≤ 256) (h0 : 0 < y) : Calls Tryz.prog 44 #[v, v2] w (Got w (isU (x / y)).p) := got_U (exactly_got (isU_I hv) (isU_I hv2) (Nat.le_trans hx (by omega)) (Nat.le_trans hy (by omega)) (by omega))
theorem intU (hv : (isU x).p v w) : Calls Tryz.prog 43 #[v] w (Got w (isU x).p) := got_U (int_got (isU_I hv))
theorem ofU (hv : (isU x).p v w) : Calls Tryz.prog 17 #[v] w (Got w (isU x).p) := got_U (of_got (isU_I hv))
theorem orderU (hv : (isU x).p v w) (hv2 : (isU x).p v2 w) (hx : Ex.ln x ≤ 256) : Calls Tryz.prog 16 #[v, v2] w (Got w (isV (.int .i64 0)).p) := by
 have h := order_got (isU_I hv) (isU_I hv2) (Nat.le_trans hx (by omega)) (Nat.le_trans hx (by omega)); rw [Int.sub_self] at h; exact h
theorem sameU (hv : (isU x).p v w) (hv2 : (isU x).p v2 w) : Calls Tryz.prog 9 #[v, v2] w (Got w (isV (.bool true)).p) := by
 have h := Same_got (isU_I hv) (isU_I hv2); rw [decide_eq_true rfl] at h; exact h
end
section
variable {P : Program} {Q : Exit → Act → World → Prop} {o : Oper} {a : Act} {w : World} {d g n k : Nat} {x y : Operand} {t : TypeId} {p q : Value} {A : Option Addr} {b : Bool} {s r u : SP}
theorem lds_J (h : Blk w g t [p, q]) : (Instr.loadAt 25 (.pointer (some ⟨g, 0, none⟩))).run Tryz.prog w = .ok (.agg #[p, q]) w := by
 have h0 := h.cell 0; have h1 := h.cell 1; simp at h0 h1; simp [go_sem, h0, h1]
theorem lds_Y (h : Blk w g t [p, q]) : (Instr.loadAt 50 (.pointer (some ⟨g, 0, none⟩))).run Tryz.prog w = .ok (.agg #[p, q]) w := by
 have h0 := h.cell 0; have h1 := h.cell 1; simp at h0 h1; simp [go_sem, h0, h1]
theorem op_ldJ (ho : o.op = .load 25 x) (hd : o.dst = some d) (hx : a.eval x = .pointer (some ⟨g, 0, none⟩)) (h : Blk w g t [p, q]) : o.wp Tryz.prog a w (Post a w d (isV (.agg #[p, q])).p) Q := op_load ho hd hx (lds_J h) rfl
theorem op_ldY (ho : o.op = .load 50 x) (hd : o.dst = some d) (hx : a.eval x = .pointer (some ⟨g, 0, none⟩)) (h : Blk w g t [p, q]) : o.wp Tryz.prog a w (Post a w d (isV (.agg #[p, q])).p) Q := op_load ho hd hx (lds_Y h) rfl
theorem sto_J (h : Blk w g t [p, q]) : (Instr.storeAt 25 (.pointer (some ⟨g, 0, none⟩)) (.agg #[.bool b, .slice A n k])).run Tryz.prog w = .ok () (putL w g 0 [.bool b, .slice A n k]) := by
 have h0 := h.cell 0; have h1 := h.cell 1; simp at h0 h1; have f0 := h.frozen 0; have f1 := h.frozen 1; simp only [putL]; simp [go_sem, h0, h1, f0, f1]
theorem sto_Y (h : Blk w g t [p, q]) : (Instr.storeAt 50 (.pointer (some ⟨g, 0, none⟩)) (.agg #[.bool b, .slice A n k])).run Tryz.prog w = .ok () (putL w g 0 [.bool b, .slice A n k]) := by
 have h0 := h.cell 0; have h1 := h.cell 1; simp at h0 h1; have f0 := h.frozen 0; have f1 := h.frozen 1; simp only [putL]; simp [go_sem, h0, h1, f0, f1]
theorem alloc_J (w : World) : (Instr.alloc 25 true (.tuple #[])).run Tryz.prog w = .ok (.pointer (some ⟨w.heap.size, 0, none⟩)) (w.alloc (.cells [.bool false, .slice none 0 0].toArray 25)) := by
 simp [go_sem]
theorem alloc_Y (w : World) : (Instr.alloc 50 true (.tuple #[])).run Tryz.prog w = .ok (.pointer (some ⟨w.heap.size, 0, none⟩)) (w.alloc (.cells [.bool false, .slice none 0 0].toArray 50)) := by
 simp [go_sem]
theorem op_b0J (ho : o.op = .build 25 #[]) (w : World) : (execOp a.eval o).run Tryz.prog w = .ok (.value (.agg #[.bool false, .slice none 0 0])) w := by
 unfold execOp; simp only [ho]; simp [go_sem]
theorem op_ex1 (ho : o.op = .extract y 0) (hx : (isP3 s r u).p (a.eval y) w) : ∃ v, (∀ w, (execOp a.eval o).run P w = .ok (.value v) w) ∧ s.p v w := by
 obtain ⟨x1, x2, x3, h, h1, h2, h3⟩ := hx; exact ⟨x1, op_extract ho h rfl, h1⟩
theorem op_ex2 (ho : o.op = .extract y 1) (hx : (isP3 s r u).p (a.eval y) w) : ∃ v, (∀ w, (execOp a.eval o).run P w = .ok (.value v) w) ∧ r.p v w := by
 obtain ⟨x1, x2, x3, h, h1, h2, h3⟩ := hx; exact ⟨x2, op_extract ho h rfl, h2⟩
theorem op_ex3 (ho : o.op = .extract y 2) (hx : (isP3 s r u).p (a.eval y) w) : ∃ v, (∀ w, (execOp a.eval o).run P w = .ok (.value v) w) ∧ u.p v w := by
 obtain ⟨x1, x2, x3, h, h1, h2, h3⟩ := hx; exact ⟨x3, op_extract ho h rfl, h3⟩
end
end Go.Proofs.YtddbmckbankmeaaGreat
