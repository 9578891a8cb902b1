/- Part 3 of the texts behind this claim. -/
import Derived.Test.YtddbmckbankmeaaGreatKc2
set_option linter.unusedVariables false
set_option linter.unusedSimpArgs false
namespace Go.Proofs.YtddbmckbankmeaaGreat
open Go.RowKit
theorem blk_ne {w : World} {g h : Nat} {t t' : TypeId} {us vs : List Value} (h1 : Blk w g t us) (h2 : Blk w h t' vs) (hne : t ≠ t') : g ≠ h := fun e => by
 subst e; unfold Blk at h1 h2; rw [h1] at h2; injection h2 with h2
 injection h2 with _ h2
 exact hne h2
def isFS (lo : Nat) (W H : Int) (xs : List Int) : SP := ⟨fun v w => ∃ g k rest, v = .agg #[.int .i64 W, .int .i64 H, .slice (some ⟨g, 0, none⟩) xs.length k] ∧ lo ≤ g ∧ xs.length ≤ k ∧ k ≤ 9223372036854775807 ∧ Blk w g 3 (ints xs ++ rest),
 fun v w w' ⟨g, k, rest, h1, h2, h3, h4, h5⟩ hb => ⟨g, k, rest, h1, h2, h3, h4, h5.to hb⟩⟩
theorem got_fs {P : Program} {f lo lo' : Nat} {vs : Array Value} {w : World} {W H : Int} {xs : List Int} (h : lo ≤ lo') (hc : Calls P f vs w (Got w (isFS lo' W H xs).p)) : Calls P f vs w (Got w (isFS lo W H xs).p) :=
 hc.mono fun e w' ⟨v, h1, h2, g, k, rest, h3, h4, h5⟩ => ⟨v, h1, h2, g, k, rest, h3, Nat.le_trans h h4, h5⟩
theorem got_fsp {P : Program} {f lo lo' : Nat} {vs : Array Value} {w : World} {W H : Int} {xs : List Int} {s : SP} (h : lo ≤ lo') (hc : Calls P f vs w (Got w (isP (isFS lo' W H xs) s).p)) : Calls P f vs w (Got w (isP (isFS lo W H xs) s).p) :=
 hc.mono fun e w' ⟨v, h1, h2, x, y, h3, ⟨g, k, rest, h4, h5, h6⟩, h7⟩ => ⟨v, h1, h2, x, y, h3, ⟨g, k, rest, h4, Nat.le_trans h h5, h6⟩, h7⟩
section
variable {o : Oper} {a : Act} {w : World} {x y z : Operand} {b1 b2 : Int} {lo : Nat} {xs : List Int}
theorem op_buTF (ho : o.op = .build 43 #[(0, x), (1, y), (2, z)]) (h0 : a.eval x = .int .i64 b1) (h1 : a.eval y = .int .i64 b2) (h2 : (isF lo xs).p (a.eval z) w) : ∃ v, (∀ w, (execOp a.eval o).run Tryz.prog w = .ok (.value v) w) ∧ (isFS lo b1 b2 xs).p v w := by
 obtain ⟨g, k, rest, e, h3, h4, h5, h6⟩ := h2; exact ⟨_, op_buT ho h0 h1 e, g, k, rest, rfl, h3, h4, h5, h6⟩
theorem op_buUF (ho : o.op = .build 45 #[(0, x), (1, y), (2, z)]) (h0 : a.eval x = .int .i64 b1) (h1 : a.eval y = .int .i64 b2) (h2 : (isF lo xs).p (a.eval z) w) : ∃ v, (∀ w, (execOp a.eval o).run Tryz.prog w = .ok (.value v) w) ∧ (isFS lo b1 b2 xs).p v w := by
 obtain ⟨g, k, rest, e, h3, h4, h5, h6⟩ := h2; exact ⟨_, op_buU ho h0 h1 e, g, k, rest, rfl, h3, h4, h5, h6⟩
end
theorem op_asg {P : Program} {o : Oper} {a : Act} {w : World} {y : Operand} {s : SP} (ho : o.op = .assign y) (hx : s.p (a.eval y) w) : ∃ v, (∀ w, (execOp a.eval o).run P w = .ok (.value v) w) ∧ s.p v w := by
 refine ⟨_, fun w => ?_, hx⟩; unfold execOp; simp only [ho, Sem.run_pure]
def sizeB (w h : Int) : Bool := decide (1 ≤ w) && decide (w ≤ 8) && (decide (1 ≤ h) && decide (h ≤ 8))
def alB (w h x y t : Int) : Bool := decide (0 ≤ x) && decide (x < w) && decide (0 ≤ y) && decide (y < h) && decide (0 ≤ t) && decide (t < 4) && (decide (t % 2 = 0) || decide (w = h))
def rot (p : Int × Int) : Int × Int := (-p.2, p.1)
def trn (f : Bool) (x y : Int) : Nat → Int × Int
 | 0 => (if f = true then -x else x, y)
 | n + 1 => rot (trn f x y n)
theorem trn_bound (f : Bool) {x y b : Int} (hx : -b ≤ x ∧ x ≤ b) (hy : -b ≤ y ∧ y ≤ b) : ∀ n, (-b ≤ (trn f x y n).1 ∧ (trn f x y n).1 ≤ b) ∧ -b ≤ (trn f x y n).2 ∧ (trn f x y n).2 ≤ b
 | 0 => by cases f <;> simp [trn] <;> omega
 | n + 1 => by
  have := trn_bound f hx hy n; simp only [trn, rot]; omega
structure Lin where
 a : Int
 b : Int
 c : Int
 d : Int
def lin (f : Bool) : Nat → Lin
 | 0 => ⟨if f = true then -1 else 1, 0, 0, 1⟩
 | n + 1 => let l := lin f n; ⟨-l.c, -l.d, l.a, l.b⟩
theorem lin_trn (f : Bool) (x y : Int) : ∀ n, ((lin f n).a * x + (lin f n).b * y, (lin f n).c * x + (lin f n).d * y) = trn f x y n
 | 0 => by cases f <;> simp [lin, trn]
 | n + 1 => by
  have h := lin_trn f x y n; simp only [lin, trn, rot]; rw [← h]; simp only [Int.neg_mul]; congr 1
  omega
def toC (w h x y t : Int) (f : Bool) (i : Int) : Int := ((trn f (i % w) (i / w) t.toNat).2 + y) % h * w + ((trn f (i % w) (i / w) t.toNat).1 + x) % w
def aft (w h x1 y1 t1 : Int) (f1 : Bool) (x2 y2 t2 : Int) (f2 : Bool) : Int × Int × Int × Bool :=
 (((trn f1 x2 y2 t1.toNat).1 + x1) % w, ((trn f1 x2 y2 t1.toNat).2 + y1) % h, (t1 + if f1 = true then 4 - t2 else t2) % 4, f1 != f2)
set_option maxRecDepth 100000 in
set_option maxHeartbeats 1000000 in
theorem size_got (Wd Ht : Int) (A : Option Addr) (n k : Nat) (w : World) :
  Calls Tryz.prog 76 #[.agg #[.int .i64 Wd, .int .i64 Ht, .slice A n k]] w (Got w (isV (.agg #[.int .i64 Wd, .int .i64 Ht])).p) := by
 go_enter Tryz.func76, Tryz.ntmps76
 go_upto_region 1 with fail
 obtain ⟨W0, hW0⟩ : ∃ W : World, W = (w.alloc (.cells #[.int .i64 Wd, .int .i64 Ht, .slice A n k] 43)).alloc (.cells #[.int .i64 0, .int .i64 0] 63) := ⟨_, rfl⟩; rw [← hW0]; obtain ⟨he, hb⟩ := env_two hW0; have HE := Hd.mk he; have HB := Hd.mk hb; clear he hb hW0; refine wp_region_vd 5 [3, 4, 5, 6, 7] [0, 2, 4] [] 63 [.int .i64 0, .int .i64 0] [isV (.pointer (some ⟨w.heap.size, 0, none⟩)), qI Wd, isV (.pointer (some ⟨w.heap.size, 1, none⟩)), qI Ht, isV (.agg #[.int .i64 Wd, .int .i64 Ht])] (by rfl) alloc_Z ?_ ?_
 ·intro qi qh qA aa wx hb hs hd
  match qi, qh, qA with
  | 0, _, _ => exact aL ⟨_, op_faT0 rfl (hs 1 rfl), rfl⟩ | 1, _, _ => exact aL (op_ldI rfl rfl (hd 0 rfl) ((HE.out.to hb).cell 0 0 rfl rfl)) | 2, _, _ => exact aL ⟨_, op_faT1 rfl (hs 1 rfl), rfl⟩ | 3, _, _ => exact aL (op_ldI rfl rfl (hd 2 rfl) ((HE.out.to hb).cell 0 1 rfl rfl)) | 4, _, _ => exact aL ⟨_, op_buZ rfl (hd 1 rfl) (hd 3 rfl), rfl⟩ | qi + 5, h, _ => omega
 intro vs X1 hb hv hal hne; replace HB := Hd.mk (bel_then HB.out hb); replace HE := Hd.mk (HE.out.to hb); have e7 : vs 7 = .agg #[.int .i64 Wd, .int .i64 Ht] := hv 4 (by decide) rfl; simp only [PA, e7]; clear hv hal hne hb e7; refine wpList_st rfl rfl rfl rfl rfl (sto_Z (HE.out.get 1 rfl)) ?_; have HE' : Env (putL X1 (w.heap.size + 1) 0 [.int .i64 Wd, .int .i64 Ht]) [⟨w.heap.size, 43, [.int .i64 Wd, .int .i64 Ht, .slice A n k]⟩, ⟨w.heap.size + 1, 63, [.int .i64 Wd, .int .i64 Ht]⟩] := HE.out.putF 1 rfl rfl; have HB' := putL_below (show w.heap.size ≤ w.heap.size + 1 from by omega) [.int .i64 Wd, .int .i64 Ht] _ 0 HB.out; generalize putL X1 (w.heap.size + 1) 0 [.int .i64 Wd, .int .i64 Ht] = X2 at *; replace HE := Hd.mk HE'; replace HB := Hd.mk HB'; clear HE' HB'; go_wp2_with fail
 have k0a := HE.out.cell 1 0 rfl rfl; have k0b := HE.out.cell 1 1 rfl rfl; refine bodyPost_ret (v := .agg #[.int .i64 Wd, .int .i64 Ht]) (by simp [results, Tryz.results76, go_sem, k0a, k0b]) rfl ?_; exact ⟨_, rfl, HB.out, rfl⟩
set_option maxRecDepth 100000 in
set_option maxHeartbeats 1000000 in
theorem move_got (x y t : Int) (f : Bool) (w : World) :
  Calls Tryz.prog 29 #[.agg #[.int .i64 x, .int .i64 y, .int .i64 t, .bool f]] w (Got w (isV (.agg #[.int .i64 x, .int .i64 y, .int .i64 t, .bool f])).p) := by
 go_enter Tryz.func29, Tryz.ntmps29
 go_upto_region 1 with fail
 obtain ⟨W0, hW0⟩ : ∃ W : World, W = (w.alloc (.cells #[.int .i64 x, .int .i64 y, .int .i64 t, .bool f] 56)).alloc (.cells #[.int .i64 0, .int .i64 0, .int .i64 0, .bool false] 65) := ⟨_, rfl⟩; rw [← hW0]; obtain ⟨he, hb⟩ := env_two hW0; have HE := Hd.mk he; have HB := Hd.mk hb; clear he hb hW0; refine wp_region_vd 9 [3, 4, 5, 6, 7, 8, 9, 10, 11] [0, 2, 4, 6, 8] [] 63 [.int .i64 0, .int .i64 0] [isV (.pointer (some ⟨w.heap.size, 0, none⟩)), qI x, isV (.pointer (some ⟨w.heap.size, 1, none⟩)), qI y, isV (.pointer (some ⟨w.heap.size, 2, none⟩)), qI t, isV (.pointer (some ⟨w.heap.size, 3, none⟩)), isV (.bool f), isV (.agg #[.int .i64 x, .int .i64 y, .int .i64 t, .bool f])] (by rfl) alloc_Z ?_ ?_
 ·intro qi qh qA aa wx hb hs hd
  match qi, qh, qA with
  | 0, _, _ => exact aL ⟨_, op_faN0 rfl (hs 1 rfl), rfl⟩ | 1, _, _ => exact aL (op_ldI rfl rfl (hd 0 rfl) ((HE.out.to hb).cell 0 0 rfl rfl)) | 2, _, _ => exact aL ⟨_, op_faN1 rfl (hs 1 rfl), rfl⟩ | 3, _, _ => exact aL (op_ldI rfl rfl (hd 2 rfl) ((HE.out.to hb).cell 0 1 rfl rfl)) | 4, _, _ => exact aL ⟨_, op_faN2 rfl (hs 1 rfl), rfl⟩ | 5, _, _ => exact aL (op_ldI rfl rfl (hd 4 rfl) ((HE.out.to hb).cell 0 2 rfl rfl)) | 6, _, _ => exact aL ⟨_, op_faN3 rfl (hs 1 rfl), rfl⟩ | 7, _, _ => exact aL (op_ldB rfl rfl (hd 6 rfl) ((HE.out.to hb).cell 0 3 rfl rfl)) | 8, _, _ => exact aL ⟨_, op_buM rfl (hd 1 rfl) (hd 3 rfl) (hd 5 rfl) (hd 7 rfl), rfl⟩ | qi + 9, h, _ => omega
 intro vs X1 hb hv hal hne; replace HB := Hd.mk (bel_then HB.out hb); replace HE := Hd.mk (HE.out.to hb); have e11 : vs 11 = .agg #[.int .i64 x, .int .i64 y, .int .i64 t, .bool f] := hv 8 (by decide) rfl; simp only [PA, e11]; clear hv hal hne hb e11; refine wpList_st rfl rfl rfl rfl rfl (sto_M (HE.out.get 1 rfl)) ?_; have HE' : Env (putL X1 (w.heap.size + 1) 0 [.int .i64 x, .int .i64 y, .int .i64 t, .bool f]) [⟨w.heap.size, 56, [.int .i64 x, .int .i64 y, .int .i64 t, .bool f]⟩, ⟨w.heap.size + 1, 65, [.int .i64 x, .int .i64 y, .int .i64 t, .bool f]⟩] := HE.out.putF 1 rfl rfl; have HB' := putL_below (show w.heap.size ≤ w.heap.size + 1 from by omega) [.int .i64 x, .int .i64 y, .int .i64 t, .bool f] _ 0 HB.out; generalize putL X1 (w.heap.size + 1) 0 [.int .i64 x, .int .i64 y, .int .i64 t, .bool f] = X2 at *; replace HE := Hd.mk HE'; replace HB := Hd.mk HB'; clear HE' HB'; go_wp2_with fail
 have k0a := HE.out.cell 1 0 rfl rfl; have k0b := HE.out.cell 1 1 rfl rfl; have k0c := HE.out.cell 1 2 rfl rfl; have k0d := HE.out.cell 1 3 rfl rfl; refine bodyPost_ret (v := .agg #[.int .i64 x, .int .i64 y, .int .i64 t, .bool f]) (by simp [results, Tryz.results29, go_sem, k0a, k0b, k0c, k0d]) rfl ?_; exact ⟨_, rfl, HB.out, rfl⟩
set_option maxRecDepth 100000 in
set_option maxHeartbeats 1000000 in
theorem own_got (Wd Ht : Int) (A : Option Addr) (n k : Nat) (w : World) :
  Calls Tryz.prog 15 #[.agg #[.int .i64 Wd, .int .i64 Ht, .slice A n k]] w (Got w (isV (.agg #[.int .i64 Wd, .int .i64 Ht, .slice A n k])).p) := by
 go_enter Tryz.func15, Tryz.ntmps15
 go_upto_region 1 with fail
 obtain ⟨W0, hW0⟩ : ∃ W : World, W = (w.alloc (.cells #[.int .i64 Wd, .int .i64 Ht, .slice A n k] 43)).alloc (.cells #[.int .i64 0, .int .i64 0, .slice none 0 0] 45) := ⟨_, rfl⟩; rw [← hW0]; obtain ⟨he, hb⟩ := env_two hW0; have HE := Hd.mk he; have HB := Hd.mk hb; clear he hb hW0; refine wp_region_vd 7 [3, 4, 5, 6, 7, 8, 9] [0, 2, 4, 6] [] 63 [.int .i64 0, .int .i64 0] [isV (.pointer (some ⟨w.heap.size, 0, none⟩)), qI Wd, isV (.pointer (some ⟨w.heap.size, 1, none⟩)), qI Ht, isV (.pointer (some ⟨w.heap.size, 2, none⟩)), isV (.slice A n k), isV (.agg #[.int .i64 Wd, .int .i64 Ht, .slice A n k])] (by rfl) alloc_Z ?_ ?_
 ·intro qi qh qA aa wx hb hs hd
  match qi, qh, qA with
  | 0, _, _ => exact aL ⟨_, op_faT0 rfl (hs 1 rfl), rfl⟩ | 1, _, _ => exact aL (op_ldI rfl rfl (hd 0 rfl) ((HE.out.to hb).cell 0 0 rfl rfl)) | 2, _, _ => exact aL ⟨_, op_faT1 rfl (hs 1 rfl), rfl⟩ | 3, _, _ => exact aL (op_ldI rfl rfl (hd 2 rfl) ((HE.out.to hb).cell 0 1 rfl rfl)) | 4, _, _ => exact aL ⟨_, op_faT2 rfl (hs 1 rfl), rfl⟩ | 5, _, _ => exact aL (op_ldS rfl rfl (hd 4 rfl) ((HE.out.to hb).cell 0 2 rfl rfl)) | 6, _, _ => exact aL ⟨_, op_buU rfl (hd 1 rfl) (hd 3 rfl) (hd 5 rfl), rfl⟩ | qi + 7, h, _ => omega
 intro vs X1 hb hv hal hne; replace HB := Hd.mk (bel_then HB.out hb); replace HE := Hd.mk (HE.out.to hb); have e9 : vs 9 = .agg #[.int .i64 Wd, .int .i64 Ht, .slice A n k] := hv 6 (by decide) rfl; simp only [PA, e9]; clear hv hal hne hb e9; refine wpList_st rfl rfl rfl rfl rfl (sto_U (HE.out.get 1 rfl)) ?_; have HE' : Env (putL X1 (w.heap.size + 1) 0 [.int .i64 Wd, .int .i64 Ht, .slice A n k]) [⟨w.heap.size, 43, [.int .i64 Wd, .int .i64 Ht, .slice A n k]⟩, ⟨w.heap.size + 1, 45, [.int .i64 Wd, .int .i64 Ht, .slice A n k]⟩] := HE.out.putF 1 rfl rfl; have HB' := putL_below (show w.heap.size ≤ w.heap.size + 1 from by omega) [.int .i64 Wd, .int .i64 Ht, .slice A n k] _ 0 HB.out; generalize putL X1 (w.heap.size + 1) 0 [.int .i64 Wd, .int .i64 Ht, .slice A n k] = X2 at *; replace HE := Hd.mk HE'; replace HB := Hd.mk HB'; clear HE' HB'; go_wp2_with fail
 have k0a := HE.out.cell 1 0 rfl rfl; have k0b := HE.out.cell 1 1 rfl rfl; have k0c := HE.out.cell 1 2 rfl rfl; refine bodyPost_ret (v := .agg #[.int .i64 Wd, .int .i64 Ht, .slice A n k]) (by simp [results, Tryz.results15, go_sem, k0a, k0b, k0c]) rfl ?_; exact ⟨_, rfl, HB.out, rfl⟩
set_option maxRecDepth 100000 in
set_option maxHeartbeats 1000000 in
theorem valid_got (Wd Ht : Int) (w : World) :
  Calls Tryz.prog 22 #[.agg #[.int .i64 Wd, .int .i64 Ht]] w (Got w (isV (.bool (sizeB Wd Ht))).p) := by
 by_cases h0 : 1 ≤ if Ht < Wd then Ht else Wd
 ·have K0 := Hd.mk (decide_eq_true h0); by_cases h1 : (if Wd < Ht then Ht else Wd) ≤ 8
  ·have K1 := Hd.mk (decide_eq_true h1); rw [show sizeB Wd Ht = true by unfold sizeB; simp; split at h0 <;> split at h1 <;> omega]; go_enter Tryz.func22, Tryz.ntmps22
   go_upto_region 1 with fail
   obtain ⟨W0, hW0⟩ : ∃ W : World, W = w.alloc (.cells #[.int .i64 Wd, .int .i64 Ht] 63) := ⟨_, rfl⟩; rw [← hW0]; obtain ⟨he, hb⟩ := env_one hW0; have HE := Hd.mk he; have HB := Hd.mk hb; clear he hb hW0; refine wp_region_vd 14 [3, 4, 5, 6, 7, 8, 9, 10, 11, 12, 13, 14, 15, 16] [0, 2, 5, 6, 7, 9, 12, 13] [] 63 [.int .i64 0, .int .i64 0] [isV (.pointer (some ⟨w.heap.size, 0, none⟩)), qI Wd, isV (.pointer (some ⟨w.heap.size, 1, none⟩)), qI Ht, qI (if Ht < Wd then Ht else Wd), qT, qT, isV (.pointer (some ⟨w.heap.size, 0, none⟩)), qI Wd, isV (.pointer (some ⟨w.heap.size, 1, none⟩)), qI Ht, qI (if Wd < Ht then Ht else Wd), qT, qT] (by rfl) alloc_Z ?_ ?_
   ·intro qi qh qA aa wx hb hs hd
    match qi, qh, qA with
    | 0, _, _ => exact aL ⟨_, op_faZ0 rfl (hs 1 rfl), rfl⟩ | 1, _, _ => exact aL (op_ldI rfl rfl (hd 0 rfl) ((HE.out.to hb).cell 0 0 rfl rfl)) | 2, _, _ => exact aL ⟨_, op_faZ1 rfl (hs 1 rfl), rfl⟩ | 3, _, _ => exact aL (op_ldI rfl rfl (hd 2 rfl) ((HE.out.to hb).cell 0 1 rfl rfl)) | 4, _, _ => exact aL (op_min rfl rfl (hd 1 rfl) (hd 3 rfl)) | 5, _, _ => exact aL (pure_b (bool_eq K0.out) (⟨_, op_geqI rfl (hd 4 rfl) rfl, rfl⟩)) | 6, _, _ => exact aL (op_mv rfl (hd 5 rfl)) | 7, _, _ => exact aG (hd 6 rfl) ⟨_, op_faZ0 rfl (hs 1 rfl), rfl⟩ | 8, _, _ => exact aG (hd 6 rfl) (op_ldI rfl rfl (hd 7 rfl) ((HE.out.to hb).cell 0 0 rfl rfl)) | 9, _, _ => exact aG (hd 6 rfl) ⟨_, op_faZ1 rfl (hs 1 rfl), rfl⟩ | 10, _, _ => exact aG (hd 6 rfl) (op_ldI rfl rfl (hd 9 rfl) ((HE.out.to hb).cell 0 1 rfl rfl)) | 11, _, _ => exact aG (hd 6 rfl) (op_max rfl rfl (hd 8 rfl) (hd 10 rfl)) | 12, _, _ => exact aG (hd 6 rfl) (pure_b (bool_eq K1.out) (⟨_, op_leqI rfl (hd 11 rfl) rfl, rfl⟩)) | 13, _, _ => exact aL ⟨_, op_pickT rfl (hd 6 rfl) (hd 12 rfl), rfl⟩ | qi + 14, h, _ => omega
   intro vs X1 hb hv hal hne; replace HB := Hd.mk (bel_then HB.out hb); replace HE := Hd.mk (HE.out.to hb); have e16 : vs 16 = .bool true := hv 13 (by decide) rfl; simp only [PA, e16]; clear hv hal hne hb e16; go_wp2_with fail
   go_ret
   exact ⟨_, rfl, HB.out, rfl⟩
  rw [show sizeB Wd Ht = false by unfold sizeB; simp; split at h0 <;> split at h1 <;> omega]; have K1 := Hd.mk (decide_eq_false h1); go_enter Tryz.func22, Tryz.ntmps22
  go_upto_region 1 with fail
  obtain ⟨W0, hW0⟩ : ∃ W : World, W = w.alloc (.cells #[.int .i64 Wd, .int .i64 Ht] 63) := ⟨_, rfl⟩; rw [← hW0]; obtain ⟨he, hb⟩ := env_one hW0; have HE := Hd.mk he; have HB := Hd.mk hb; clear he hb hW0; refine wp_region_vd 14 [3, 4, 5, 6, 7, 8, 9, 10, 11, 12, 13, 14, 15, 16] [0, 2, 5, 6, 7, 9, 12, 13] [] 63 [.int .i64 0, .int .i64 0] [isV (.pointer (some ⟨w.heap.size, 0, none⟩)), qI Wd, isV (.pointer (some ⟨w.heap.size, 1, none⟩)), qI Ht, qI (if Ht < Wd then Ht else Wd), qT, qT, isV (.pointer (some ⟨w.heap.size, 0, none⟩)), qI Wd, isV (.pointer (some ⟨w.heap.size, 1, none⟩)), qI Ht, qI (if Wd < Ht then Ht else Wd), qF, qF] (by rfl) alloc_Z ?_ ?_
  ·intro qi qh qA aa wx hb hs hd
   match qi, qh, qA with
   | 0, _, _ => exact aL ⟨_, op_faZ0 rfl (hs 1 rfl), rfl⟩ | 1, _, _ => exact aL (op_ldI rfl rfl (hd 0 rfl) ((HE.out.to hb).cell 0 0 rfl rfl)) | 2, _, _ => exact aL ⟨_, op_faZ1 rfl (hs 1 rfl), rfl⟩ | 3, _, _ => exact aL (op_ldI rfl rfl (hd 2 rfl) ((HE.out.to hb).cell 0 1 rfl rfl)) | 4, _, _ => exact aL (op_min rfl rfl (hd 1 rfl) (hd 3 rfl)) | 5, _, _ => exact aL (pure_b (bool_eq K0.out) (⟨_, op_geqI rfl (hd 4 rfl) rfl, rfl⟩)) | 6, _, _ => exact aL (op_mv rfl (hd 5 rfl)) | 7, _, _ => exact aG (hd 6 rfl) ⟨_, op_faZ0 rfl (hs 1 rfl), rfl⟩ | 8, _, _ => exact aG (hd 6 rfl) (op_ldI rfl rfl (hd 7 rfl) ((HE.out.to hb).cell 0 0 rfl rfl)) | 9, _, _ => exact aG (hd 6 rfl) ⟨_, op_faZ1 rfl (hs 1 rfl), rfl⟩ | 10, _, _ => exact aG (hd 6 rfl) (op_ldI rfl rfl (hd 9 rfl) ((HE.out.to hb).cell 0 1 rfl rfl)) | 11, _, _ => exact aG (hd 6 rfl) (op_max rfl rfl (hd 8 rfl) (hd 10 rfl)) | 12, _, _ => exact aG (hd 6 rfl) (pure_b (bool_eq K1.out) (⟨_, op_leqI rfl (hd 11 rfl) rfl, rfl⟩)) | 13, _, _ => exact aL ⟨_, op_pickT rfl (hd 6 rfl) (hd 12 rfl), rfl⟩ | qi + 14, h, _ => omega
  intro vs X1 hb hv hal hne; replace HB := Hd.mk (bel_then HB.out hb); replace HE := Hd.mk (HE.out.to hb); have e16 : vs 16 = .bool false := hv 13 (by decide) rfl; simp only [PA, e16]; clear hv hal hne hb e16; go_wp2_with fail
  go_ret
  exact ⟨_, rfl, HB.out, rfl⟩
 rw [show sizeB Wd Ht = false by unfold sizeB; simp; split at h0 <;> omega]; have K0 := Hd.mk (decide_eq_false h0); go_enter Tryz.func22, Tryz.ntmps22
 go_upto_region 1 with fail
 obtain ⟨W0, hW0⟩ : ∃ W : World, W = w.alloc (.cells #[.int .i64 Wd, .int .i64 Ht] 63) := ⟨_, rfl⟩; rw [← hW0]; obtain ⟨he, hb⟩ := env_one hW0; have HE := Hd.mk he; have HB := Hd.mk hb; clear he hb hW0; refine wp_region_vd 14 [3, 4, 5, 6, 7, 8, 9, 10, 11, 12, 13, 14, 15, 16] [0, 2, 5, 6, 13] [] 63 [.int .i64 0, .int .i64 0] [isV (.pointer (some ⟨w.heap.size, 0, none⟩)), qI Wd, isV (.pointer (some ⟨w.heap.size, 1, none⟩)), qI Ht, qI (if Ht < Wd then Ht else Wd), qF, qF, qU, qU, qU, qU, qU, qU, qF] (by rfl) alloc_Z ?_ ?_
 ·intro qi qh qA aa wx hb hs hd
  match qi, qh, qA with
  | 0, _, _ => exact aL ⟨_, op_faZ0 rfl (hs 1 rfl), rfl⟩ | 1, _, _ => exact aL (op_ldI rfl rfl (hd 0 rfl) ((HE.out.to hb).cell 0 0 rfl rfl)) | 2, _, _ => exact aL ⟨_, op_faZ1 rfl (hs 1 rfl), rfl⟩ | 3, _, _ => exact aL (op_ldI rfl rfl (hd 2 rfl) ((HE.out.to hb).cell 0 1 rfl rfl)) | 4, _, _ => exact aL (op_min rfl rfl (hd 1 rfl) (hd 3 rfl)) | 5, _, _ => exact aL (pure_b (bool_eq K0.out) (⟨_, op_geqI rfl (hd 4 rfl) rfl, rfl⟩)) | 6, _, _ => exact aL (op_mv rfl (hd 5 rfl)) | 7, _, _ => exact aS (hd 6 rfl) | 8, _, _ => exact aS (hd 6 rfl) | 9, _, _ => exact aS (hd 6 rfl) | 10, _, _ => exact aS (hd 6 rfl) | 11, _, _ => exact aS (hd 6 rfl) | 12, _, _ => exact aS (hd 6 rfl) | 13, _, _ => exact aL ⟨_, op_pickF rfl (hd 6 rfl) rfl, rfl⟩ | qi + 14, h, _ => omega
 intro vs X1 hb hv hal hne; replace HB := Hd.mk (bel_then HB.out hb); replace HE := Hd.mk (HE.out.to hb); have e16 : vs 16 = .bool false := hv 13 (by decide) rfl; simp only [PA, e16]; clear hv hal hne hb e16; go_wp2_with fail
 go_ret
 exact ⟨_, rfl, HB.out, rfl⟩
set_option maxRecDepth 100000 in
set_option maxHeartbeats 1000000 in
theorem allows_got (Wd Ht x y t : Int) (f : Bool) (w : World) :
  Calls Tryz.prog 52 #[.agg #[.int .i64 Wd, .int .i64 Ht], .agg #[.int .i64 x, .int .i64 y, .int .i64 t, .bool f]] w (Got w (isV (.bool (alB Wd Ht x y t))).p) := by
 by_cases h0 : 0 ≤ x
 ·skip
  by_cases h1 : x < Wd
  ·skip
   by_cases h2 : 0 ≤ y
   ·skip
    by_cases h3 : y < Ht
    ·skip
     by_cases h4 : 0 ≤ t
     ·skip
      by_cases h5 : t < 4
      ·skip
       by_cases h6 : t % 2 = 0
       ·rw [show alB Wd Ht x y t = true by unfold alB; simp [h0, h1, h2, h3, h4, h5, h6] <;> omega]; have KE :  Int.tmod t 2 = 0 := by rw [tmod_nonneg (by omega)]; exact h6
        go_enter Tryz.func52, Tryz.ntmps52
        go_wp2_with fail
        go_ret
        exact ⟨_, rfl, below_alloc (below_alloc (Below.refl _ _) _) _, rfl⟩
       have KE : ¬ Int.tmod t 2 = 0 := by rw [tmod_nonneg (by omega)]; exact h6
       by_cases h7 : Wd = Ht
       ·rw [show alB Wd Ht x y t = true by unfold alB; simp [h0, h1, h2, h3, h4, h5, h7] <;> omega]; skip
        go_enter Tryz.func52, Tryz.ntmps52
        go_wp2_with fail
        go_ret
        exact ⟨_, rfl, below_alloc (below_alloc (Below.refl _ _) _) _, rfl⟩
       rw [show alB Wd Ht x y t = false by unfold alB; simp [h0, h1, h2, h3, h4, h5, h6, h7] <;> omega]; skip
       go_enter Tryz.func52, Tryz.ntmps52
       go_wp2_with fail
       go_ret
       exact ⟨_, rfl, below_alloc (below_alloc (Below.refl _ _) _) _, by show Value.bool (t % 2 == 0 || Wd == Ht) = Value.bool false; simp [h6, h7]⟩
      rw [show alB Wd Ht x y t = false by unfold alB; simp [h0, h1, h2, h3, h4, h5] <;> omega]; skip
      go_enter Tryz.func52, Tryz.ntmps52
      go_wp2_with fail
      go_ret
      exact ⟨_, rfl, below_alloc (below_alloc (Below.refl _ _) _) _, rfl⟩
     rw [show alB Wd Ht x y t = false by unfold alB; simp [h0, h1, h2, h3, h4] <;> omega]; skip
     go_enter Tryz.func52, Tryz.ntmps52
     go_wp2_with fail
     go_ret
     exact ⟨_, rfl, below_alloc (below_alloc (Below.refl _ _) _) _, rfl⟩
    rw [show alB Wd Ht x y t = false by unfold alB; simp [h0, h1, h2, h3] <;> omega]; skip
    go_enter Tryz.func52, Tryz.ntmps52
    go_wp2_with fail
    go_ret
    exact ⟨_, rfl, below_alloc (below_alloc (Below.refl _ _) _) _, rfl⟩
   rw [show alB Wd Ht x y t = false by unfold alB; simp [h0, h1, h2] <;> omega]; skip
   go_enter Tryz.func52, Tryz.ntmps52
   go_wp2_with fail
   go_ret
   exact ⟨_, rfl, below_alloc (below_alloc (Below.refl _ _) _) _, rfl⟩
  rw [show alB Wd Ht x y t = false by unfold alB; simp [h0, h1] <;> omega]; skip
  go_enter Tryz.func52, Tryz.ntmps52
  go_wp2_with fail
  go_ret
  exact ⟨_, rfl, below_alloc (below_alloc (Below.refl _ _) _) _, rfl⟩
 rw [show alB Wd Ht x y t = false by unfold alB; simp [h0] <;> omega]; skip
 go_enter Tryz.func52, Tryz.ntmps52
 go_wp2_with fail
 go_ret
 exact ⟨_, rfl, below_alloc (below_alloc (Below.refl _ _) _) _, rfl⟩
set_option maxRecDepth 100000 in
set_option maxHeartbeats 1000000 in
theorem Fits_got (Wd Ht x y t : Int) (f : Bool) (w : World) :
  Calls Tryz.prog 19 #[.int .i64 Wd, .int .i64 Ht, .agg #[.int .i64 x, .int .i64 y, .int .i64 t, .bool f]] w (Got w (isV (.bool (alB Wd Ht x y t))).p) := by
 by_cases h0 : 0 ≤ x
 ·skip
  by_cases h1 : x < Wd
  ·skip
   by_cases h2 : 0 ≤ y
   ·skip
    by_cases h3 : y < Ht
    ·skip
     by_cases h4 : 0 ≤ t
     ·skip
      by_cases h5 : t < 4
      ·have K5 : t ≤ 3 := by omega
       by_cases h6 : Wd = Ht
       ·rw [show alB Wd Ht x y t = true by unfold alB; simp [h0, h1, h2, h3, h4, h5, h6] <;> omega]; skip
        go_enter Tryz.func19, Tryz.ntmps19
        go_wp2_with fail
        go_ret
        exact ⟨_, rfl, below_alloc (Below.refl _ _) _, rfl⟩
       by_cases h7 : t % 2 = 0
       ·rw [show alB Wd Ht x y t = true by unfold alB; simp [h0, h1, h2, h3, h4, h5, h7] <;> omega]; have KE :  Int.tmod t 2 = 0 := by rw [tmod_nonneg (by omega)]; exact h7
        go_enter Tryz.func19, Tryz.ntmps19
        go_wp2_with fail
        go_ret
        exact ⟨_, rfl, below_alloc (Below.refl _ _) _, rfl⟩
       rw [show alB Wd Ht x y t = false by unfold alB; simp [h0, h1, h2, h3, h4, h5, h6, h7] <;> omega]; have KE : ¬ Int.tmod t 2 = 0 := by rw [tmod_nonneg (by omega)]; exact h7
       go_enter Tryz.func19, Tryz.ntmps19
       go_wp2_with fail
       go_ret
       exact ⟨_, rfl, below_alloc (Below.refl _ _) _, by show Value.bool (Wd == Ht || t % 2 == 0) = Value.bool false; simp [h6, h7]⟩
      rw [show alB Wd Ht x y t = false by unfold alB; simp [h0, h1, h2, h3, h4, h5] <;> omega]; have K5 : ¬ t ≤ 3 := by omega
      go_enter Tryz.func19, Tryz.ntmps19
      go_wp2_with fail
      go_ret
      exact ⟨_, rfl, below_alloc (Below.refl _ _) _, rfl⟩
     rw [show alB Wd Ht x y t = false by unfold alB; simp [h0, h1, h2, h3, h4] <;> omega]; skip
     go_enter Tryz.func19, Tryz.ntmps19
     go_wp2_with fail
     go_ret
     exact ⟨_, rfl, below_alloc (Below.refl _ _) _, rfl⟩
    rw [show alB Wd Ht x y t = false by unfold alB; simp [h0, h1, h2, h3] <;> omega]; skip
    go_enter Tryz.func19, Tryz.ntmps19
    go_wp2_with fail
    go_ret
    exact ⟨_, rfl, below_alloc (Below.refl _ _) _, rfl⟩
   rw [show alB Wd Ht x y t = false by unfold alB; simp [h0, h1, h2] <;> omega]; skip
   go_enter Tryz.func19, Tryz.ntmps19
   go_wp2_with fail
   go_ret
   exact ⟨_, rfl, below_alloc (Below.refl _ _) _, rfl⟩
  rw [show alB Wd Ht x y t = false by unfold alB; simp [h0, h1] <;> omega]; skip
  go_enter Tryz.func19, Tryz.ntmps19
  go_wp2_with fail
  go_ret
  exact ⟨_, rfl, below_alloc (Below.refl _ _) _, rfl⟩
 rw [show alB Wd Ht x y t = false by unfold alB; simp [h0] <;> omega]; skip
 go_enter Tryz.func19, Tryz.ntmps19
 go_wp2_with fail
 go_ret
 exact ⟨_, rfl, below_alloc (Below.refl _ _) _, rfl⟩
theorem wrap_lem {i j : Int} (hj : 1 ≤ j) : Int.tmod (Int.tmod i j + j) j = i % j := tmod_wrap (by omega)
set_option maxRecDepth 100000 in
set_option maxHeartbeats 1000000 in
theorem wrap_got (Wd Ht a b : Int) (h1 : 1 ≤ Wd ∧ Wd ≤ 1000) (h2 : 1 ≤ Ht ∧ Ht ≤ 1000) (h3 : -1000 ≤ a ∧ a ≤ 1000) (h4 : -1000 ≤ b ∧ b ≤ 1000) (w : World) :
  Calls Tryz.prog 85 #[.agg #[.int .i64 Wd, .int .i64 Ht], .int .i64 a, .int .i64 b] w (Got w (isP (isV (.int .i64 (a % Wd))) (isV (.int .i64 (b % Ht)))).p) := by
 have q1 := tmod_bound (i := a) (j := Wd) (by omega); have q2 := tmod_bound (i := b) (j := Ht) (by omega); have e1 := Hd.mk (wrap_lem (i := a) h1.1); have e2 := Hd.mk (wrap_lem (i := b) h2.1); go_enter Tryz.func85, Tryz.ntmps85
 go_upto_region 1 with fail
 obtain ⟨W0, hW0⟩ : ∃ W : World, W = w.alloc (.cells #[.int .i64 Wd, .int .i64 Ht] 63) := ⟨_, rfl⟩; rw [← hW0]; obtain ⟨he, hb⟩ := env_one hW0; have HE := Hd.mk he; have HB := Hd.mk hb; clear he hb hW0; refine wp_region_vs 22 [8, 9, 10, 11, 12, 13, 14, 15, 16, 17, 18, 19, 20, 21, 22, 23, 24, 25, 26, 27, 6, 7] [0, 1, 4, 6, 7, 10, 11, 14, 16, 17, 20, 21] [] 63 [.int .i64 0, .int .i64 0] [qI a, isV (.pointer (some ⟨w.heap.size, 0, none⟩)), qI Wd, qI (Int.tmod a Wd), isV (.pointer (some ⟨w.heap.size, 0, none⟩)), qI Wd, qI ((Int.tmod a Wd) + Wd), isV (.pointer (some ⟨w.heap.size, 0, none⟩)), qI Wd, qI (a % Wd), qI b, isV (.pointer (some ⟨w.heap.size, 1, none⟩)), qI Ht, qI (Int.tmod b Ht), isV (.pointer (some ⟨w.heap.size, 1, none⟩)), qI Ht, qI ((Int.tmod b Ht) + Ht), isV (.pointer (some ⟨w.heap.size, 1, none⟩)), qI Ht, qI (b % Ht), qI (a % Wd), qI (b % Ht)] (by kernel_rfl) (by kernel_rfl) (by kernel_rfl) (by rfl) alloc_Z (fun d v c a w h => by cases d <;> exact h) ?_ ?_
 ·intro qi qh qA aa wx hb hs hd
  match qi, qh, qA with
  | 0, _, _ => exact op_mv rfl (hs 1 rfl) | 1, _, _ => exact ⟨_, op_faZ0 rfl (hs 3 rfl), rfl⟩ | 2, _, _ => exact op_ldI rfl rfl (hd 1 rfl) ((HE.out.to hb).cell 0 0 rfl rfl) | 3, _, _ => exact op_run rfl (op_rem (by omega) (by unfold Fit; omega) (by omega) rfl (hd 0 rfl) (hd 2 rfl) _) rfl | 4, _, _ => exact ⟨_, op_faZ0 rfl (hs 3 rfl), rfl⟩ | 5, _, _ => exact op_ldI rfl rfl (hd 4 rfl) ((HE.out.to hb).cell 0 0 rfl rfl) | 6, _, _ => exact ⟨_, op_add (by unfold Fit; omega) rfl (hd 3 rfl) (hd 5 rfl), rfl⟩ | 7, _, _ => exact ⟨_, op_faZ0 rfl (hs 3 rfl), rfl⟩ | 8, _, _ => exact op_ldI rfl rfl (hd 7 rfl) ((HE.out.to hb).cell 0 0 rfl rfl) | 9, _, _ => exact wp_b (int_eq e1.out) (op_run rfl (op_rem (by omega) (by unfold Fit; omega) (by omega) rfl (hd 6 rfl) (hd 8 rfl) _) rfl) | 10, _, _ => exact op_mv rfl (hs 2 rfl) | 11, _, _ => exact ⟨_, op_faZ1 rfl (hs 3 rfl), rfl⟩ | 12, _, _ => exact op_ldI rfl rfl (hd 11 rfl) ((HE.out.to hb).cell 0 1 rfl rfl) | 13, _, _ => exact op_run rfl (op_rem (by omega) (by unfold Fit; omega) (by omega) rfl (hd 10 rfl) (hd 12 rfl) _) rfl | 14, _, _ => exact ⟨_, op_faZ1 rfl (hs 3 rfl), rfl⟩ | 15, _, _ => exact op_ldI rfl rfl (hd 14 rfl) ((HE.out.to hb).cell 0 1 rfl rfl) | 16, _, _ => exact ⟨_, op_add (by unfold Fit; omega) rfl (hd 13 rfl) (hd 15 rfl), rfl⟩ | 17, _, _ => exact ⟨_, op_faZ1 rfl (hs 3 rfl), rfl⟩ | 18, _, _ => exact op_ldI rfl rfl (hd 17 rfl) ((HE.out.to hb).cell 0 1 rfl rfl) | 19, _, _ => exact wp_b (int_eq e2.out) (op_run rfl (op_rem (by omega) (by unfold Fit; omega) (by omega) rfl (hd 16 rfl) (hd 18 rfl) _) rfl) | 20, _, _ => exact op_asg rfl (hd 9 rfl) | 21, _, _ => exact op_asg rfl (hd 19 rfl) | qi + 22, h, _ => omega
 intro vs X1 hb hv hal hne; replace HB := Hd.mk (bel_then HB.out hb); replace HE := Hd.mk (HE.out.to hb); have e6 : vs 6 = .int .i64 (a % Wd) := hv 20 (by decide) rfl; have e7 : vs 7 = .int .i64 (b % Ht) := hv 21 (by decide) rfl; simp only [PA, e6, e7]; clear hv hal hne hb e6 e7; go_wp2_with fail
 refine bodyPost_ret (v := .tuple #[.int .i64 (a % Wd), .int .i64 (b % Ht)]) (by simp [results, Tryz.results85, go_sem]) rfl ?_; exact ⟨_, rfl, HB.out, _, _, rfl, rfl, rfl⟩
theorem wrap_neg {i : Int} (h : -1000 ≤ i ∧ i ≤ 1000) : IntKind.i64.wrap (-i) = -i := wrap_fit (by unfold Fit; omega)
set_option maxRecDepth 100000 in
theorem turned_nat (dx dy : Int) (T : Nat) (f : Bool) (x y : Int) (ht : T < 4) (hx : -1000 ≤ x ∧ x ≤ 1000) (hy : -1000 ≤ y ∧ y ≤ 1000) (w : World) :
  Calls Tryz.prog 84 #[.agg #[.int .i64 dx, .int .i64 dy, .int .i64 (T : Int), .bool f], .int .i64 x, .int .i64 y] w (Got w (isP (isV (.int .i64 (trn f x y T).1)) (isV (.int .i64 (trn f x y T).2))).p) := by
 rcases f with _ | _
 ·go_enter Tryz.func84, Tryz.ntmps84
  go_wp2
  go_loopw [1, 2, 14] (fun s1 s2 s14 wr => ∃ k : Nat, k ≤ T ∧ s14 = .int .i64 k ∧ s1 = .int .i64 (trn false x y k).1 ∧ s2 = .int .i64 (trn false x y k).2 ∧ Below w.heap.size w wr) (fun _ _ s14 _ => T - (intOf s14).toNat)
  case atStart => exact ⟨0, Nat.zero_le _, rfl, rfl, rfl, by repeat (first | exact HB.out | exact Below.refl _ _ | refine below_alloc ?_ _ | refine below_drewN ?_ _ | refine below_drew ?_ | refine below_set ?_ (by first | exact Nat.le_refl _ | omega | (simp; done) | (simp; omega)) _)⟩
  case round =>
   obtain ⟨k, hk, rfl, rfl, rfl, hbel⟩ := hrel; have HB := Hd.mk hbel; have HTB := Hd.mk (trn_bound false hx hy k); have HTS := Hd.mk (show trn false x y (k + 1) = rot (trn false x y k) from rfl); obtain ⟨p, hp⟩ : ∃ p, p = trn false x y k := ⟨_, rfl⟩; rw [← hp] at HTB HTS ⊢; have HP := Hd.mk hp; clear hbel hp; by_cases hlt : k < T
   ·have hw := wrap_neg HTB.out.2; go_wp2
    go_roundw
    case rel => exact ⟨k + 1, by omega, by go_num, by rw [HTS.out]; rfl, by rw [HTS.out]; rfl, HB.out⟩
    case measure => simp [intOf]; omega
   have hkT : k = T := by omega
   have HKT := Hd.mk hkT; clear hkT; go_wp2
   refine bodyPost_ret (v := .tuple #[.int .i64 p.1, .int .i64 p.2]) (by simp [results, Tryz.results84, go_sem]) rfl ?_; exact ⟨_, rfl, HB.out, _, _, rfl, by show Value.int _ _ = _; rw [HP.out, HKT.out], by show Value.int _ _ = _; rw [HP.out, HKT.out]⟩
 have hw := wrap_neg hx; go_enter Tryz.func84, Tryz.ntmps84
 go_wp2
 clear hw; go_loopw [1, 2, 14] (fun s1 s2 s14 wr => ∃ k : Nat, k ≤ T ∧ s14 = .int .i64 k ∧ s1 = .int .i64 (trn true x y k).1 ∧ s2 = .int .i64 (trn true x y k).2 ∧ Below w.heap.size w wr) (fun _ _ s14 _ => T - (intOf s14).toNat)
 case atStart => exact ⟨0, Nat.zero_le _, rfl, rfl, rfl, by repeat (first | exact HB.out | exact Below.refl _ _ | refine below_alloc ?_ _ | refine below_drewN ?_ _ | refine below_drew ?_ | refine below_set ?_ (by first | exact Nat.le_refl _ | omega | (simp; done) | (simp; omega)) _)⟩
 case round =>
  obtain ⟨k, hk, rfl, rfl, rfl, hbel⟩ := hrel; have HB := Hd.mk hbel; have HTB := Hd.mk (trn_bound true hx hy k); have HTS := Hd.mk (show trn true x y (k + 1) = rot (trn true x y k) from rfl); obtain ⟨p, hp⟩ : ∃ p, p = trn true x y k := ⟨_, rfl⟩; rw [← hp] at HTB HTS ⊢; have HP := Hd.mk hp; clear hbel hp; by_cases hlt : k < T
  ·have hw := wrap_neg HTB.out.2; go_wp2
   go_roundw
   case rel => exact ⟨k + 1, by omega, by go_num, by rw [HTS.out]; rfl, by rw [HTS.out]; rfl, HB.out⟩
   case measure => simp [intOf]; omega
  have hkT : k = T := by omega
  have HKT := Hd.mk hkT; clear hkT; go_wp2
  refine bodyPost_ret (v := .tuple #[.int .i64 p.1, .int .i64 p.2]) (by simp [results, Tryz.results84, go_sem]) rfl ?_; exact ⟨_, rfl, HB.out, _, _, rfl, by show Value.int _ _ = _; rw [HP.out, HKT.out], by show Value.int _ _ = _; rw [HP.out, HKT.out]⟩
theorem turned_got (dx dy t : Int) (f : Bool) (x y : Int) (ht : 0 ≤ t ∧ t < 4) (hx : -1000 ≤ x ∧ x ≤ 1000) (hy : -1000 ≤ y ∧ y ≤ 1000) (w : World) :
  Calls Tryz.prog 84 #[.agg #[.int .i64 dx, .int .i64 dy, .int .i64 t, .bool f], .int .i64 x, .int .i64 y] w (Got w (isP (isV (.int .i64 (trn f x y t.toNat).1)) (isV (.int .i64 (trn f x y t.toNat).2))).p) := by
 obtain ⟨T, rfl⟩ : ∃ T : Nat, t = (T : Int) := ⟨t.toNat, by omega⟩; rw [Int.toNat_natCast]; exact turned_nat dx dy T f x y (by omega) hx hy w
end Go.Proofs.YtddbmckbankmeaaGreat
