/- Part 4 of the texts behind this claim. -/
import Derived.Test.YtddbmckbankmeaaKm3
set_option linter.unusedVariables false
set_option linter.unusedSimpArgs false
namespace Go.Proofs.Ytddbmckbankmeaa
open Go.RowKit
theorem blk_ne {w : World} {g h : Nat} {t t' : TypeId} {us vs : List Value} (h1 : Blk w g t us) (h2 : Blk w h t' vs) (hne : t ≠ t') : g ≠ h := fun e => by
  subst e
  unfold Blk at h1 h2
  rw [h1] at h2
  injection h2 with h2
  injection h2 with _ h2
  exact hne h2
def isFS (lo : Nat) (W H : Int) (xs : List Int) : SP := ⟨fun v w => ∃ g k rest, v = .agg #[.int .i64 W, .int .i64 H, .slice (some ⟨g, 0, none⟩) xs.length k] ∧ lo ≤ g ∧ xs.length ≤ k ∧ k ≤ 9223372036854775807 ∧ Blk w g 3 (ints xs ++ rest),
  fun v w w' ⟨g, k, rest, h1, h2, h3, h4, h5⟩ hb => ⟨g, k, rest, h1, h2, h3, h4, h5.to hb⟩⟩
theorem got_fs {P : Program} {f lo lo' : Nat} {vs : Array Value} {w : World} {W H : Int} {xs : List Int} (h : lo ≤ lo') (hc : Calls P f vs w (Got w (isFS lo' W H xs).p)) : Calls P f vs w (Got w (isFS lo W H xs).p) :=
  hc.mono fun e w' ⟨v, h1, h2, g, k, rest, h3, h4, h5⟩ => ⟨v, h1, h2, g, k, rest, h3, Nat.le_trans h h4, h5⟩
theorem got_fsp {P : Program} {f lo lo' : Nat} {vs : Array Value} {w : World} {W H : Int} {xs : List Int} {s : SP} (h : lo ≤ lo') (hc : Calls P f vs w (Got w (isP (isFS lo' W H xs) s).p)) : Calls P f vs w (Got w (isP (isFS lo W H xs) s).p) :=
  hc.mono fun e w' ⟨v, h1, h2, x, y, h3, ⟨g, k, rest, h4, h5, h6⟩, h7⟩ => ⟨v, h1, h2, x, y, h3, ⟨g, k, rest, h4, Nat.le_trans h h5, h6⟩, h7⟩
section
variable {o : Oper} {a : Act} {w : World} {x y z : Operand} {b1 b2 : Int} {lo : Nat} {xs : List Int}
theorem op_buTF (ho : o.op = .build 27 #[(0, x), (1, y), (2, z)]) (h0 : a.eval x = .int .i64 b1) (h1 : a.eval y = .int .i64 b2) (h2 : (isF lo xs).p (a.eval z) w) : ∃ v, (∀ w, (execOp a.eval o).run Try.prog w = .ok (.value v) w) ∧ (isFS lo b1 b2 xs).p v w := by
  obtain ⟨g, k, rest, e, h3, h4, h5, h6⟩ := h2
  exact ⟨_, op_buT ho h0 h1 e, g, k, rest, rfl, h3, h4, h5, h6⟩
theorem op_buUF (ho : o.op = .build 24 #[(0, x), (1, y), (2, z)]) (h0 : a.eval x = .int .i64 b1) (h1 : a.eval y = .int .i64 b2) (h2 : (isF lo xs).p (a.eval z) w) : ∃ v, (∀ w, (execOp a.eval o).run Try.prog w = .ok (.value v) w) ∧ (isFS lo b1 b2 xs).p v w := by
  obtain ⟨g, k, rest, e, h3, h4, h5, h6⟩ := h2
  exact ⟨_, op_buU ho h0 h1 e, g, k, rest, rfl, h3, h4, h5, h6⟩
end
theorem op_asg {P : Program} {o : Oper} {a : Act} {w : World} {y : Operand} {s : SP} (ho : o.op = .assign y) (hx : s.p (a.eval y) w) : ∃ v, (∀ w, (execOp a.eval o).run P w = .ok (.value v) w) ∧ s.p v w := by
  refine ⟨_, fun w => ?_, hx⟩
  unfold execOp
  simp only [ho, Sem.run_pure]
def sizeB (w h : Int) : Bool := decide (1 ≤ w) && decide (w ≤ 8) && (decide (1 ≤ h) && decide (h ≤ 8))
def alB (w h x y t : Int) : Bool := decide (0 ≤ x) && decide (x < w) && decide (0 ≤ y) && decide (y < h) && decide (0 ≤ t) && decide (t < 4) && (decide (t % 2 = 0) || decide (w = h))
def rot (p : Int × Int) : Int × Int := (-p.2, p.1)
def trn (f : Bool) (x y : Int) : Nat → Int × Int
  | 0 => (if f = true then -x else x, y)
  | n + 1 => rot (trn f x y n)
theorem trn_bound (f : Bool) {x y b : Int} (hx : -b ≤ x ∧ x ≤ b) (hy : -b ≤ y ∧ y ≤ b) : ∀ n, (-b ≤ (trn f x y n).1 ∧ (trn f x y n).1 ≤ b) ∧ -b ≤ (trn f x y n).2 ∧ (trn f x y n).2 ≤ b
  | 0 => by cases f <;> simp [trn] <;> omega
  | n + 1 => by
    have := trn_bound f hx hy n
    simp only [trn, rot]
    omega
structure Lin where
  a : Int
  b : Int
  c : Int
  d : Int
def lin (f : Bool) : Nat → Lin
  | 0 => ⟨if f = true then -1 else 1, 0, 0, 1⟩
  | n + 1 => let l := lin f n; ⟨-l.c, -l.d, l.a, l.b⟩
theorem lin_bound (f : Bool) : ∀ n, (-1 ≤ (lin f n).a ∧ (lin f n).a ≤ 1) ∧ (-1 ≤ (lin f n).b ∧ (lin f n).b ≤ 1) ∧ (-1 ≤ (lin f n).c ∧ (lin f n).c ≤ 1) ∧ -1 ≤ (lin f n).d ∧ (lin f n).d ≤ 1
  | 0 => by cases f <;> simp [lin]
  | n + 1 => by
    have := lin_bound f n
    simp only [lin]
    omega
theorem lin_trn (f : Bool) (x y : Int) : ∀ n, ((lin f n).a * x + (lin f n).b * y, (lin f n).c * x + (lin f n).d * y) = trn f x y n
  | 0 => by cases f <;> simp [lin, trn]
  | n + 1 => by
    have h := lin_trn f x y n
    simp only [lin, trn, rot]
    rw [← h]
    simp only [Int.neg_mul]
    congr 1
    omega
def toC (w h x y t : Int) (f : Bool) (i : Int) : Int := ((trn f (i % w) (i / w) t.toNat).2 + y) % h * w + ((trn f (i % w) (i / w) t.toNat).1 + x) % w
def aft (w h x1 y1 t1 : Int) (f1 : Bool) (x2 y2 t2 : Int) (f2 : Bool) : Int × Int × Int × Bool :=
  (((trn f1 x2 y2 t1.toNat).1 + x1) % w, ((trn f1 x2 y2 t1.toNat).2 + y1) % h, (t1 + if f1 = true then 4 - t2 else t2) % 4, f1 != f2)
set_option maxRecDepth 100000 in
set_option maxHeartbeats 1000000 in
theorem size_got (Wd Ht : Int) (A : Option Addr) (n k : Nat) (w : World) :
    Calls Try.prog 50 #[.agg #[.int .i64 Wd, .int .i64 Ht, .slice A n k]] w (Got w (isV (.agg #[.int .i64 Wd, .int .i64 Ht])).p) := by
  go_enter Try.func50, Try.ntmps50
  go_upto_region 1 with fail
  obtain ⟨W0, hW0⟩ : ∃ W : World, W = (w.alloc (.cells #[.int .i64 Wd, .int .i64 Ht, .slice A n k] 27)).alloc (.cells #[.int .i64 0, .int .i64 0] 84) := ⟨_, rfl⟩
  rw [← hW0]
  obtain ⟨he, hb⟩ := env_two hW0
  have HE := Hd.mk he
  have HB := Hd.mk hb
  clear he hb hW0
  refine wp_region_vd 5 [3, 4, 5, 6, 7] [0, 2, 4] [] 84 [.int .i64 0, .int .i64 0] [isV (.pointer (some ⟨w.heap.size, 0, none⟩)), isV (.int .i64 Wd), isV (.pointer (some ⟨w.heap.size, 1, none⟩)), isV (.int .i64 Ht), isV (.agg #[.int .i64 Wd, .int .i64 Ht])] (by rfl) alloc_Z ?_ ?_
  · intro qi qh qA aa wx hb hs hd
    match qi, qh, qA with
    | 0, _, _ => exact .inl ⟨rfl, ⟨_, op_faT0 rfl (hs 1 rfl), rfl⟩⟩
    | 1, _, _ => exact .inl ⟨rfl, op_ldI rfl rfl (hd 0 rfl) ((HE.out.to hb).cell 0 0 rfl rfl)⟩
    | 2, _, _ => exact .inl ⟨rfl, ⟨_, op_faT1 rfl (hs 1 rfl), rfl⟩⟩
    | 3, _, _ => exact .inl ⟨rfl, op_ldI rfl rfl (hd 2 rfl) ((HE.out.to hb).cell 0 1 rfl rfl)⟩
    | 4, _, _ => exact .inl ⟨rfl, ⟨_, op_buZ rfl (hd 1 rfl) (hd 3 rfl), rfl⟩⟩
    | qi + 5, h, _ => omega
  intro vs X1 hb hv hal hne
  replace HB := Hd.mk (bel_then HB.out hb)
  replace HE := Hd.mk (HE.out.to hb)
  have e7 : vs 7 = .agg #[.int .i64 Wd, .int .i64 Ht] := hv 4 (by decide) rfl
  simp only [PA, e7]
  clear hv hal hne hb e7
  refine wpList_st rfl rfl rfl rfl rfl (sto_Z (HE.out.get 1 rfl)) ?_
  have HE' : Env (putL X1 (w.heap.size + 1) 0 [.int .i64 Wd, .int .i64 Ht]) [⟨w.heap.size, 27, [.int .i64 Wd, .int .i64 Ht, .slice A n k]⟩, ⟨w.heap.size + 1, 84, [.int .i64 Wd, .int .i64 Ht]⟩] := HE.out.putF 1 rfl rfl
  have HB' := putL_below (show w.heap.size ≤ w.heap.size + 1 from by omega) [.int .i64 Wd, .int .i64 Ht] _ 0 HB.out
  generalize putL X1 (w.heap.size + 1) 0 [.int .i64 Wd, .int .i64 Ht] = X2 at *
  replace HE := Hd.mk HE'
  replace HB := Hd.mk HB'
  clear HE' HB'
  go_wp2_with fail
  have k0a := HE.out.cell 1 0 rfl rfl
  have k0b := HE.out.cell 1 1 rfl rfl
  refine bodyPost_ret (v := .agg #[.int .i64 Wd, .int .i64 Ht]) (by simp [results, Try.results50, go_sem, k0a, k0b]) rfl ?_
  exact ⟨_, rfl, HB.out, rfl⟩
set_option maxRecDepth 100000 in
set_option maxHeartbeats 1000000 in
theorem move_got (x y t : Int) (f : Bool) (w : World) :
    Calls Try.prog 14 #[.agg #[.int .i64 x, .int .i64 y, .int .i64 t, .bool f]] w (Got w (isV (.agg #[.int .i64 x, .int .i64 y, .int .i64 t, .bool f])).p) := by
  go_enter Try.func14, Try.ntmps14
  go_upto_region 1 with fail
  obtain ⟨W0, hW0⟩ : ∃ W : World, W = (w.alloc (.cells #[.int .i64 x, .int .i64 y, .int .i64 t, .bool f] 26)).alloc (.cells #[.int .i64 0, .int .i64 0, .int .i64 0, .bool false] 31) := ⟨_, rfl⟩
  rw [← hW0]
  obtain ⟨he, hb⟩ := env_two hW0
  have HE := Hd.mk he
  have HB := Hd.mk hb
  clear he hb hW0
  refine wp_region_vd 9 [3, 4, 5, 6, 7, 8, 9, 10, 11] [0, 2, 4, 6, 8] [] 84 [.int .i64 0, .int .i64 0] [isV (.pointer (some ⟨w.heap.size, 0, none⟩)), isV (.int .i64 x), isV (.pointer (some ⟨w.heap.size, 1, none⟩)), isV (.int .i64 y), isV (.pointer (some ⟨w.heap.size, 2, none⟩)), isV (.int .i64 t), isV (.pointer (some ⟨w.heap.size, 3, none⟩)), isV (.bool f), isV (.agg #[.int .i64 x, .int .i64 y, .int .i64 t, .bool f])] (by rfl) alloc_Z ?_ ?_
  · intro qi qh qA aa wx hb hs hd
    match qi, qh, qA with
    | 0, _, _ => exact .inl ⟨rfl, ⟨_, op_faN0 rfl (hs 1 rfl), rfl⟩⟩
    | 1, _, _ => exact .inl ⟨rfl, op_ldI rfl rfl (hd 0 rfl) ((HE.out.to hb).cell 0 0 rfl rfl)⟩
    | 2, _, _ => exact .inl ⟨rfl, ⟨_, op_faN1 rfl (hs 1 rfl), rfl⟩⟩
    | 3, _, _ => exact .inl ⟨rfl, op_ldI rfl rfl (hd 2 rfl) ((HE.out.to hb).cell 0 1 rfl rfl)⟩
    | 4, _, _ => exact .inl ⟨rfl, ⟨_, op_faN2 rfl (hs 1 rfl), rfl⟩⟩
    | 5, _, _ => exact .inl ⟨rfl, op_ldI rfl rfl (hd 4 rfl) ((HE.out.to hb).cell 0 2 rfl rfl)⟩
    | 6, _, _ => exact .inl ⟨rfl, ⟨_, op_faN3 rfl (hs 1 rfl), rfl⟩⟩
    | 7, _, _ => exact .inl ⟨rfl, op_ldB rfl rfl (hd 6 rfl) ((HE.out.to hb).cell 0 3 rfl rfl)⟩
    | 8, _, _ => exact .inl ⟨rfl, ⟨_, op_buM rfl (hd 1 rfl) (hd 3 rfl) (hd 5 rfl) (hd 7 rfl), rfl⟩⟩
    | qi + 9, h, _ => omega
  intro vs X1 hb hv hal hne
  replace HB := Hd.mk (bel_then HB.out hb)
  replace HE := Hd.mk (HE.out.to hb)
  have e11 : vs 11 = .agg #[.int .i64 x, .int .i64 y, .int .i64 t, .bool f] := hv 8 (by decide) rfl
  simp only [PA, e11]
  clear hv hal hne hb e11
  refine wpList_st rfl rfl rfl rfl rfl (sto_M (HE.out.get 1 rfl)) ?_
  have HE' : Env (putL X1 (w.heap.size + 1) 0 [.int .i64 x, .int .i64 y, .int .i64 t, .bool f]) [⟨w.heap.size, 26, [.int .i64 x, .int .i64 y, .int .i64 t, .bool f]⟩, ⟨w.heap.size + 1, 31, [.int .i64 x, .int .i64 y, .int .i64 t, .bool f]⟩] := HE.out.putF 1 rfl rfl
  have HB' := putL_below (show w.heap.size ≤ w.heap.size + 1 from by omega) [.int .i64 x, .int .i64 y, .int .i64 t, .bool f] _ 0 HB.out
  generalize putL X1 (w.heap.size + 1) 0 [.int .i64 x, .int .i64 y, .int .i64 t, .bool f] = X2 at *
  replace HE := Hd.mk HE'
  replace HB := Hd.mk HB'
  clear HE' HB'
  go_wp2_with fail
  have k0a := HE.out.cell 1 0 rfl rfl
  have k0b := HE.out.cell 1 1 rfl rfl
  have k0c := HE.out.cell 1 2 rfl rfl
  have k0d := HE.out.cell 1 3 rfl rfl
  refine bodyPost_ret (v := .agg #[.int .i64 x, .int .i64 y, .int .i64 t, .bool f]) (by simp [results, Try.results14, go_sem, k0a, k0b, k0c, k0d]) rfl ?_
  exact ⟨_, rfl, HB.out, rfl⟩
set_option maxRecDepth 100000 in
set_option maxHeartbeats 1000000 in
theorem ownMove_got (x y t : Int) (f : Bool) (w : World) :
    Calls Try.prog 26 #[.agg #[.int .i64 x, .int .i64 y, .int .i64 t, .bool f]] w (Got w (isV (.agg #[.int .i64 x, .int .i64 y, .int .i64 t, .bool f])).p) := by
  go_enter Try.func26, Try.ntmps26
  go_upto_region 1 with fail
  obtain ⟨W0, hW0⟩ : ∃ W : World, W = (w.alloc (.cells #[.int .i64 x, .int .i64 y, .int .i64 t, .bool f] 31)).alloc (.cells #[.int .i64 0, .int .i64 0, .int .i64 0, .bool false] 26) := ⟨_, rfl⟩
  rw [← hW0]
  obtain ⟨he, hb⟩ := env_two hW0
  have HE := Hd.mk he
  have HB := Hd.mk hb
  clear he hb hW0
  refine wp_region_vd 9 [3, 4, 5, 6, 7, 8, 9, 10, 11] [0, 2, 4, 6, 8] [] 84 [.int .i64 0, .int .i64 0] [isV (.pointer (some ⟨w.heap.size, 0, none⟩)), isV (.int .i64 x), isV (.pointer (some ⟨w.heap.size, 1, none⟩)), isV (.int .i64 y), isV (.pointer (some ⟨w.heap.size, 2, none⟩)), isV (.int .i64 t), isV (.pointer (some ⟨w.heap.size, 3, none⟩)), isV (.bool f), isV (.agg #[.int .i64 x, .int .i64 y, .int .i64 t, .bool f])] (by rfl) alloc_Z ?_ ?_
  · intro qi qh qA aa wx hb hs hd
    match qi, qh, qA with
    | 0, _, _ => exact .inl ⟨rfl, ⟨_, op_faM0 rfl (hs 1 rfl), rfl⟩⟩
    | 1, _, _ => exact .inl ⟨rfl, op_ldI rfl rfl (hd 0 rfl) ((HE.out.to hb).cell 0 0 rfl rfl)⟩
    | 2, _, _ => exact .inl ⟨rfl, ⟨_, op_faM1 rfl (hs 1 rfl), rfl⟩⟩
    | 3, _, _ => exact .inl ⟨rfl, op_ldI rfl rfl (hd 2 rfl) ((HE.out.to hb).cell 0 1 rfl rfl)⟩
    | 4, _, _ => exact .inl ⟨rfl, ⟨_, op_faM2 rfl (hs 1 rfl), rfl⟩⟩
    | 5, _, _ => exact .inl ⟨rfl, op_ldI rfl rfl (hd 4 rfl) ((HE.out.to hb).cell 0 2 rfl rfl)⟩
    | 6, _, _ => exact .inl ⟨rfl, ⟨_, op_faM3 rfl (hs 1 rfl), rfl⟩⟩
    | 7, _, _ => exact .inl ⟨rfl, op_ldB rfl rfl (hd 6 rfl) ((HE.out.to hb).cell 0 3 rfl rfl)⟩
    | 8, _, _ => exact .inl ⟨rfl, ⟨_, op_buN rfl (hd 1 rfl) (hd 3 rfl) (hd 5 rfl) (hd 7 rfl), rfl⟩⟩
    | qi + 9, h, _ => omega
  intro vs X1 hb hv hal hne
  replace HB := Hd.mk (bel_then HB.out hb)
  replace HE := Hd.mk (HE.out.to hb)
  have e11 : vs 11 = .agg #[.int .i64 x, .int .i64 y, .int .i64 t, .bool f] := hv 8 (by decide) rfl
  simp only [PA, e11]
  clear hv hal hne hb e11
  refine wpList_st rfl rfl rfl rfl rfl (sto_N (HE.out.get 1 rfl)) ?_
  have HE' : Env (putL X1 (w.heap.size + 1) 0 [.int .i64 x, .int .i64 y, .int .i64 t, .bool f]) [⟨w.heap.size, 31, [.int .i64 x, .int .i64 y, .int .i64 t, .bool f]⟩, ⟨w.heap.size + 1, 26, [.int .i64 x, .int .i64 y, .int .i64 t, .bool f]⟩] := HE.out.putF 1 rfl rfl
  have HB' := putL_below (show w.heap.size ≤ w.heap.size + 1 from by omega) [.int .i64 x, .int .i64 y, .int .i64 t, .bool f] _ 0 HB.out
  generalize putL X1 (w.heap.size + 1) 0 [.int .i64 x, .int .i64 y, .int .i64 t, .bool f] = X2 at *
  replace HE := Hd.mk HE'
  replace HB := Hd.mk HB'
  clear HE' HB'
  go_wp2_with fail
  have k0a := HE.out.cell 1 0 rfl rfl
  have k0b := HE.out.cell 1 1 rfl rfl
  have k0c := HE.out.cell 1 2 rfl rfl
  have k0d := HE.out.cell 1 3 rfl rfl
  refine bodyPost_ret (v := .agg #[.int .i64 x, .int .i64 y, .int .i64 t, .bool f]) (by simp [results, Try.results26, go_sem, k0a, k0b, k0c, k0d]) rfl ?_
  exact ⟨_, rfl, HB.out, rfl⟩
set_option maxRecDepth 100000 in
set_option maxHeartbeats 1000000 in
theorem own_got (Wd Ht : Int) (A : Option Addr) (n k : Nat) (w : World) :
    Calls Try.prog 21 #[.agg #[.int .i64 Wd, .int .i64 Ht, .slice A n k]] w (Got w (isV (.agg #[.int .i64 Wd, .int .i64 Ht, .slice A n k])).p) := by
  go_enter Try.func21, Try.ntmps21
  go_upto_region 1 with fail
  obtain ⟨W0, hW0⟩ : ∃ W : World, W = (w.alloc (.cells #[.int .i64 Wd, .int .i64 Ht, .slice A n k] 27)).alloc (.cells #[.int .i64 0, .int .i64 0, .slice none 0 0] 24) := ⟨_, rfl⟩
  rw [← hW0]
  obtain ⟨he, hb⟩ := env_two hW0
  have HE := Hd.mk he
  have HB := Hd.mk hb
  clear he hb hW0
  refine wp_region_vd 7 [3, 4, 5, 6, 7, 8, 9] [0, 2, 4, 6] [] 84 [.int .i64 0, .int .i64 0] [isV (.pointer (some ⟨w.heap.size, 0, none⟩)), isV (.int .i64 Wd), isV (.pointer (some ⟨w.heap.size, 1, none⟩)), isV (.int .i64 Ht), isV (.pointer (some ⟨w.heap.size, 2, none⟩)), isV (.slice A n k), isV (.agg #[.int .i64 Wd, .int .i64 Ht, .slice A n k])] (by rfl) alloc_Z ?_ ?_
  · intro qi qh qA aa wx hb hs hd
    match qi, qh, qA with
    | 0, _, _ => exact .inl ⟨rfl, ⟨_, op_faT0 rfl (hs 1 rfl), rfl⟩⟩
    | 1, _, _ => exact .inl ⟨rfl, op_ldI rfl rfl (hd 0 rfl) ((HE.out.to hb).cell 0 0 rfl rfl)⟩
    | 2, _, _ => exact .inl ⟨rfl, ⟨_, op_faT1 rfl (hs 1 rfl), rfl⟩⟩
    | 3, _, _ => exact .inl ⟨rfl, op_ldI rfl rfl (hd 2 rfl) ((HE.out.to hb).cell 0 1 rfl rfl)⟩
    | 4, _, _ => exact .inl ⟨rfl, ⟨_, op_faT2 rfl (hs 1 rfl), rfl⟩⟩
    | 5, _, _ => exact .inl ⟨rfl, op_ldS rfl rfl (hd 4 rfl) ((HE.out.to hb).cell 0 2 rfl rfl)⟩
    | 6, _, _ => exact .inl ⟨rfl, ⟨_, op_buU rfl (hd 1 rfl) (hd 3 rfl) (hd 5 rfl), rfl⟩⟩
    | qi + 7, h, _ => omega
  intro vs X1 hb hv hal hne
  replace HB := Hd.mk (bel_then HB.out hb)
  replace HE := Hd.mk (HE.out.to hb)
  have e9 : vs 9 = .agg #[.int .i64 Wd, .int .i64 Ht, .slice A n k] := hv 6 (by decide) rfl
  simp only [PA, e9]
  clear hv hal hne hb e9
  refine wpList_st rfl rfl rfl rfl rfl (sto_U (HE.out.get 1 rfl)) ?_
  have HE' : Env (putL X1 (w.heap.size + 1) 0 [.int .i64 Wd, .int .i64 Ht, .slice A n k]) [⟨w.heap.size, 27, [.int .i64 Wd, .int .i64 Ht, .slice A n k]⟩, ⟨w.heap.size + 1, 24, [.int .i64 Wd, .int .i64 Ht, .slice A n k]⟩] := HE.out.putF 1 rfl rfl
  have HB' := putL_below (show w.heap.size ≤ w.heap.size + 1 from by omega) [.int .i64 Wd, .int .i64 Ht, .slice A n k] _ 0 HB.out
  generalize putL X1 (w.heap.size + 1) 0 [.int .i64 Wd, .int .i64 Ht, .slice A n k] = X2 at *
  replace HE := Hd.mk HE'
  replace HB := Hd.mk HB'
  clear HE' HB'
  go_wp2_with fail
  have k0a := HE.out.cell 1 0 rfl rfl
  have k0b := HE.out.cell 1 1 rfl rfl
  have k0c := HE.out.cell 1 2 rfl rfl
  refine bodyPost_ret (v := .agg #[.int .i64 Wd, .int .i64 Ht, .slice A n k]) (by simp [results, Try.results21, go_sem, k0a, k0b, k0c]) rfl ?_
  exact ⟨_, rfl, HB.out, rfl⟩
set_option maxRecDepth 100000 in
set_option maxHeartbeats 1000000 in
theorem valid_got (Wd Ht : Int) (w : World) :
    Calls Try.prog 53 #[.agg #[.int .i64 Wd, .int .i64 Ht]] w (Got w (isV (.bool (sizeB Wd Ht))).p) := by
  by_cases h0 : 1 ≤ if Ht < Wd then Ht else Wd
  · have K0 := Hd.mk (decide_eq_true h0)
    by_cases h1 : (if Wd < Ht then Ht else Wd) ≤ 8
    · have K1 := Hd.mk (decide_eq_true h1)
      rw [show sizeB Wd Ht = true by unfold sizeB; simp; split at h0 <;> split at h1 <;> omega]
      go_enter Try.func53, Try.ntmps53
      go_upto_region 1 with fail
      obtain ⟨W0, hW0⟩ : ∃ W : World, W = w.alloc (.cells #[.int .i64 Wd, .int .i64 Ht] 84) := ⟨_, rfl⟩
      rw [← hW0]
      obtain ⟨he, hb⟩ := env_one hW0
      have HE := Hd.mk he
      have HB := Hd.mk hb
      clear he hb hW0
      refine wp_region_vd 14 [3, 4, 5, 6, 7, 8, 9, 10, 11, 12, 13, 14, 15, 16] [0, 2, 5, 6, 7, 9, 12, 13] [] 84 [.int .i64 0, .int .i64 0] [isV (.pointer (some ⟨w.heap.size, 0, none⟩)), isV (.int .i64 Wd), isV (.pointer (some ⟨w.heap.size, 1, none⟩)), isV (.int .i64 Ht), isV (.int .i64 (if Ht < Wd then Ht else Wd)), isV (.bool true), isV (.bool true), isV (.pointer (some ⟨w.heap.size, 0, none⟩)), isV (.int .i64 Wd), isV (.pointer (some ⟨w.heap.size, 1, none⟩)), isV (.int .i64 Ht), isV (.int .i64 (if Wd < Ht then Ht else Wd)), isV (.bool true), isV (.bool true)] (by rfl) alloc_Z ?_ ?_
      · intro qi qh qA aa wx hb hs hd
        match qi, qh, qA with
        | 0, _, _ => exact .inl ⟨rfl, ⟨_, op_faZ0 rfl (hs 1 rfl), rfl⟩⟩
        | 1, _, _ => exact .inl ⟨rfl, op_ldI rfl rfl (hd 0 rfl) ((HE.out.to hb).cell 0 0 rfl rfl)⟩
        | 2, _, _ => exact .inl ⟨rfl, ⟨_, op_faZ1 rfl (hs 1 rfl), rfl⟩⟩
        | 3, _, _ => exact .inl ⟨rfl, op_ldI rfl rfl (hd 2 rfl) ((HE.out.to hb).cell 0 1 rfl rfl)⟩
        | 4, _, _ => exact .inl ⟨rfl, op_min rfl rfl (hd 1 rfl) (hd 3 rfl)⟩
        | 5, _, _ => exact .inl ⟨rfl, pure_b (bool_eq K0.out) (⟨_, op_geqI rfl (hd 4 rfl) rfl, rfl⟩)⟩
        | 6, _, _ => exact .inl ⟨rfl, op_mv rfl (hd 5 rfl)⟩
        | 7, _, _ => exact .inl ⟨⟨rfl, .inl (hd 6 rfl)⟩, ⟨_, op_faZ0 rfl (hs 1 rfl), rfl⟩⟩
        | 8, _, _ => exact .inl ⟨⟨rfl, .inl (hd 6 rfl)⟩, op_ldI rfl rfl (hd 7 rfl) ((HE.out.to hb).cell 0 0 rfl rfl)⟩
        | 9, _, _ => exact .inl ⟨⟨rfl, .inl (hd 6 rfl)⟩, ⟨_, op_faZ1 rfl (hs 1 rfl), rfl⟩⟩
        | 10, _, _ => exact .inl ⟨⟨rfl, .inl (hd 6 rfl)⟩, op_ldI rfl rfl (hd 9 rfl) ((HE.out.to hb).cell 0 1 rfl rfl)⟩
        | 11, _, _ => exact .inl ⟨⟨rfl, .inl (hd 6 rfl)⟩, op_max rfl rfl (hd 8 rfl) (hd 10 rfl)⟩
        | 12, _, _ => exact .inl ⟨⟨rfl, .inl (hd 6 rfl)⟩, pure_b (bool_eq K1.out) (⟨_, op_leqI rfl (hd 11 rfl) rfl, rfl⟩)⟩
        | 13, _, _ => exact .inl ⟨rfl, ⟨_, op_pickT rfl (hd 6 rfl) (hd 12 rfl), rfl⟩⟩
        | qi + 14, h, _ => omega
      intro vs X1 hb hv hal hne
      replace HB := Hd.mk (bel_then HB.out hb)
      replace HE := Hd.mk (HE.out.to hb)
      have e16 : vs 16 = .bool true := hv 13 (by decide) rfl
      simp only [PA, e16]
      clear hv hal hne hb e16
      go_wp2_with fail
      go_ret
      exact ⟨_, rfl, HB.out, rfl⟩
    rw [show sizeB Wd Ht = false by unfold sizeB; simp; split at h0 <;> split at h1 <;> omega]
    have K1 := Hd.mk (decide_eq_false h1)
    go_enter Try.func53, Try.ntmps53
    go_upto_region 1 with fail
    obtain ⟨W0, hW0⟩ : ∃ W : World, W = w.alloc (.cells #[.int .i64 Wd, .int .i64 Ht] 84) := ⟨_, rfl⟩
    rw [← hW0]
    obtain ⟨he, hb⟩ := env_one hW0
    have HE := Hd.mk he
    have HB := Hd.mk hb
    clear he hb hW0
    refine wp_region_vd 14 [3, 4, 5, 6, 7, 8, 9, 10, 11, 12, 13, 14, 15, 16] [0, 2, 5, 6, 7, 9, 12, 13] [] 84 [.int .i64 0, .int .i64 0] [isV (.pointer (some ⟨w.heap.size, 0, none⟩)), isV (.int .i64 Wd), isV (.pointer (some ⟨w.heap.size, 1, none⟩)), isV (.int .i64 Ht), isV (.int .i64 (if Ht < Wd then Ht else Wd)), isV (.bool true), isV (.bool true), isV (.pointer (some ⟨w.heap.size, 0, none⟩)), isV (.int .i64 Wd), isV (.pointer (some ⟨w.heap.size, 1, none⟩)), isV (.int .i64 Ht), isV (.int .i64 (if Wd < Ht then Ht else Wd)), isV (.bool false), isV (.bool false)] (by rfl) alloc_Z ?_ ?_
    · intro qi qh qA aa wx hb hs hd
      match qi, qh, qA with
      | 0, _, _ => exact .inl ⟨rfl, ⟨_, op_faZ0 rfl (hs 1 rfl), rfl⟩⟩
      | 1, _, _ => exact .inl ⟨rfl, op_ldI rfl rfl (hd 0 rfl) ((HE.out.to hb).cell 0 0 rfl rfl)⟩
      | 2, _, _ => exact .inl ⟨rfl, ⟨_, op_faZ1 rfl (hs 1 rfl), rfl⟩⟩
      | 3, _, _ => exact .inl ⟨rfl, op_ldI rfl rfl (hd 2 rfl) ((HE.out.to hb).cell 0 1 rfl rfl)⟩
      | 4, _, _ => exact .inl ⟨rfl, op_min rfl rfl (hd 1 rfl) (hd 3 rfl)⟩
      | 5, _, _ => exact .inl ⟨rfl, pure_b (bool_eq K0.out) (⟨_, op_geqI rfl (hd 4 rfl) rfl, rfl⟩)⟩
      | 6, _, _ => exact .inl ⟨rfl, op_mv rfl (hd 5 rfl)⟩
      | 7, _, _ => exact .inl ⟨⟨rfl, .inl (hd 6 rfl)⟩, ⟨_, op_faZ0 rfl (hs 1 rfl), rfl⟩⟩
      | 8, _, _ => exact .inl ⟨⟨rfl, .inl (hd 6 rfl)⟩, op_ldI rfl rfl (hd 7 rfl) ((HE.out.to hb).cell 0 0 rfl rfl)⟩
      | 9, _, _ => exact .inl ⟨⟨rfl, .inl (hd 6 rfl)⟩, ⟨_, op_faZ1 rfl (hs 1 rfl), rfl⟩⟩
      | 10, _, _ => exact .inl ⟨⟨rfl, .inl (hd 6 rfl)⟩, op_ldI rfl rfl (hd 9 rfl) ((HE.out.to hb).cell 0 1 rfl rfl)⟩
      | 11, _, _ => exact .inl ⟨⟨rfl, .inl (hd 6 rfl)⟩, op_max rfl rfl (hd 8 rfl) (hd 10 rfl)⟩
      | 12, _, _ => exact .inl ⟨⟨rfl, .inl (hd 6 rfl)⟩, pure_b (bool_eq K1.out) (⟨_, op_leqI rfl (hd 11 rfl) rfl, rfl⟩)⟩
      | 13, _, _ => exact .inl ⟨rfl, ⟨_, op_pickT rfl (hd 6 rfl) (hd 12 rfl), rfl⟩⟩
      | qi + 14, h, _ => omega
    intro vs X1 hb hv hal hne
    replace HB := Hd.mk (bel_then HB.out hb)
    replace HE := Hd.mk (HE.out.to hb)
    have e16 : vs 16 = .bool false := hv 13 (by decide) rfl
    simp only [PA, e16]
    clear hv hal hne hb e16
    go_wp2_with fail
    go_ret
    exact ⟨_, rfl, HB.out, rfl⟩
  rw [show sizeB Wd Ht = false by unfold sizeB; simp; split at h0 <;> omega]
  have K0 := Hd.mk (decide_eq_false h0)
  go_enter Try.func53, Try.ntmps53
  go_upto_region 1 with fail
  obtain ⟨W0, hW0⟩ : ∃ W : World, W = w.alloc (.cells #[.int .i64 Wd, .int .i64 Ht] 84) := ⟨_, rfl⟩
  rw [← hW0]
  obtain ⟨he, hb⟩ := env_one hW0
  have HE := Hd.mk he
  have HB := Hd.mk hb
  clear he hb hW0
  refine wp_region_vd 14 [3, 4, 5, 6, 7, 8, 9, 10, 11, 12, 13, 14, 15, 16] [0, 2, 5, 6, 13] [] 84 [.int .i64 0, .int .i64 0] [isV (.pointer (some ⟨w.heap.size, 0, none⟩)), isV (.int .i64 Wd), isV (.pointer (some ⟨w.heap.size, 1, none⟩)), isV (.int .i64 Ht), isV (.int .i64 (if Ht < Wd then Ht else Wd)), isV (.bool false), isV (.bool false), isV undef, isV undef, isV undef, isV undef, isV undef, isV undef, isV (.bool false)] (by rfl) alloc_Z ?_ ?_
  · intro qi qh qA aa wx hb hs hd
    match qi, qh, qA with
    | 0, _, _ => exact .inl ⟨rfl, ⟨_, op_faZ0 rfl (hs 1 rfl), rfl⟩⟩
    | 1, _, _ => exact .inl ⟨rfl, op_ldI rfl rfl (hd 0 rfl) ((HE.out.to hb).cell 0 0 rfl rfl)⟩
    | 2, _, _ => exact .inl ⟨rfl, ⟨_, op_faZ1 rfl (hs 1 rfl), rfl⟩⟩
    | 3, _, _ => exact .inl ⟨rfl, op_ldI rfl rfl (hd 2 rfl) ((HE.out.to hb).cell 0 1 rfl rfl)⟩
    | 4, _, _ => exact .inl ⟨rfl, op_min rfl rfl (hd 1 rfl) (hd 3 rfl)⟩
    | 5, _, _ => exact .inl ⟨rfl, pure_b (bool_eq K0.out) (⟨_, op_geqI rfl (hd 4 rfl) rfl, rfl⟩)⟩
    | 6, _, _ => exact .inl ⟨rfl, op_mv rfl (hd 5 rfl)⟩
    | 7, _, _ => exact .inr ⟨⟨rfl, .inl (hd 6 rfl)⟩, rfl⟩
    | 8, _, _ => exact .inr ⟨⟨rfl, .inl (hd 6 rfl)⟩, rfl⟩
    | 9, _, _ => exact .inr ⟨⟨rfl, .inl (hd 6 rfl)⟩, rfl⟩
    | 10, _, _ => exact .inr ⟨⟨rfl, .inl (hd 6 rfl)⟩, rfl⟩
    | 11, _, _ => exact .inr ⟨⟨rfl, .inl (hd 6 rfl)⟩, rfl⟩
    | 12, _, _ => exact .inr ⟨⟨rfl, .inl (hd 6 rfl)⟩, rfl⟩
    | 13, _, _ => exact .inl ⟨rfl, ⟨_, op_pickF rfl (hd 6 rfl) rfl, rfl⟩⟩
    | qi + 14, h, _ => omega
  intro vs X1 hb hv hal hne
  replace HB := Hd.mk (bel_then HB.out hb)
  replace HE := Hd.mk (HE.out.to hb)
  have e16 : vs 16 = .bool false := hv 13 (by decide) rfl
  simp only [PA, e16]
  clear hv hal hne hb e16
  go_wp2_with fail
  go_ret
  exact ⟨_, rfl, HB.out, rfl⟩
set_option maxRecDepth 100000 in
set_option maxHeartbeats 1000000 in
theorem rSize_got (Wd Ht : Int) (w : World) :
    Calls Try.prog 25 #[.int .i64 Wd, .int .i64 Ht] w (Got w (isV (.bool (sizeB Wd Ht))).p) := by
  by_cases h0 : 1 ≤ Wd
  · have K0 := Hd.mk (decide_eq_true h0)
    by_cases h1 : Wd ≤ 8
    · have K1 := Hd.mk (decide_eq_true h1)
      by_cases h2 : 1 ≤ Ht
      · have K2 := Hd.mk (decide_eq_true h2)
        by_cases h3 : Ht ≤ 8
        · have K3 := Hd.mk (decide_eq_true h3)
          rw [show sizeB Wd Ht = true by unfold sizeB; simp [h0, h1, h2, h3] <;> omega]
          go_enter Try.func25, Try.ntmps25
          go_upto_region 1 with fail
          have HE : Hd (Env w []) := ⟨trivial⟩
          have HB : Hd (Below w.heap.size w w) := ⟨Below.refl _ _⟩
          refine wp_region_vd 14 [5, 6, 7, 8, 9, 10, 11, 12, 13, 14, 15, 16, 17, 18] [0, 1, 2, 3, 4, 5, 6, 7, 8, 9, 10, 11, 12, 13] [] 84 [.int .i64 0, .int .i64 0] [isV (.int .i64 Wd), isV (.bool true), isV (.bool true), isV (.int .i64 Wd), isV (.bool true), isV (.bool true), isV (.bool true), isV (.int .i64 Ht), isV (.bool true), isV (.bool true), isV (.bool true), isV (.int .i64 Ht), isV (.bool true), isV (.bool true)] (by rfl) alloc_Z ?_ ?_
          · intro qi qh qA aa wx hb hs hd
            match qi, qh, qA with
            | 0, _, _ => exact .inl ⟨rfl, op_mv rfl (hs 0 rfl)⟩
            | 1, _, _ => exact .inl ⟨rfl, pure_b (bool_eq K0.out) (⟨_, op_geqI rfl (hd 0 rfl) rfl, rfl⟩)⟩
            | 2, _, _ => exact .inl ⟨rfl, op_mv rfl (hd 1 rfl)⟩
            | 3, _, _ => exact .inl ⟨⟨rfl, .inl (hd 2 rfl)⟩, op_mv rfl (hs 0 rfl)⟩
            | 4, _, _ => exact .inl ⟨⟨rfl, .inl (hd 2 rfl)⟩, pure_b (bool_eq K1.out) (⟨_, op_leqI rfl (hd 3 rfl) rfl, rfl⟩)⟩
            | 5, _, _ => exact .inl ⟨rfl, ⟨_, op_pickT rfl (hd 2 rfl) (hd 4 rfl), rfl⟩⟩
            | 6, _, _ => exact .inl ⟨rfl, op_mv rfl (hd 5 rfl)⟩
            | 7, _, _ => exact .inl ⟨⟨rfl, .inl (hd 6 rfl)⟩, op_mv rfl (hs 1 rfl)⟩
            | 8, _, _ => exact .inl ⟨⟨rfl, .inl (hd 6 rfl)⟩, pure_b (bool_eq K2.out) (⟨_, op_geqI rfl (hd 7 rfl) rfl, rfl⟩)⟩
            | 9, _, _ => exact .inl ⟨rfl, ⟨_, op_pickT rfl (hd 6 rfl) (hd 8 rfl), rfl⟩⟩
            | 10, _, _ => exact .inl ⟨rfl, op_mv rfl (hd 9 rfl)⟩
            | 11, _, _ => exact .inl ⟨⟨rfl, .inl (hd 10 rfl)⟩, op_mv rfl (hs 1 rfl)⟩
            | 12, _, _ => exact .inl ⟨⟨rfl, .inl (hd 10 rfl)⟩, pure_b (bool_eq K3.out) (⟨_, op_leqI rfl (hd 11 rfl) rfl, rfl⟩)⟩
            | 13, _, _ => exact .inl ⟨rfl, ⟨_, op_pickT rfl (hd 10 rfl) (hd 12 rfl), rfl⟩⟩
            | qi + 14, h, _ => omega
          intro vs X1 hb hv hal hne
          replace HB := Hd.mk (bel_then HB.out hb)
          replace HE := Hd.mk (HE.out.to hb)
          have e18 : vs 18 = .bool true := hv 13 (by decide) rfl
          simp only [PA, e18]
          clear hv hal hne hb e18
          go_wp2_with fail
          go_ret
          exact ⟨_, rfl, HB.out, rfl⟩
        rw [show sizeB Wd Ht = false by unfold sizeB; simp [h0, h1, h2, h3] <;> omega]
        have K3 := Hd.mk (decide_eq_false h3)
        go_enter Try.func25, Try.ntmps25
        go_upto_region 1 with fail
        have HE : Hd (Env w []) := ⟨trivial⟩
        have HB : Hd (Below w.heap.size w w) := ⟨Below.refl _ _⟩
        refine wp_region_vd 14 [5, 6, 7, 8, 9, 10, 11, 12, 13, 14, 15, 16, 17, 18] [0, 1, 2, 3, 4, 5, 6, 7, 8, 9, 10, 11, 12, 13] [] 84 [.int .i64 0, .int .i64 0] [isV (.int .i64 Wd), isV (.bool true), isV (.bool true), isV (.int .i64 Wd), isV (.bool true), isV (.bool true), isV (.bool true), isV (.int .i64 Ht), isV (.bool true), isV (.bool true), isV (.bool true), isV (.int .i64 Ht), isV (.bool false), isV (.bool false)] (by rfl) alloc_Z ?_ ?_
        · intro qi qh qA aa wx hb hs hd
          match qi, qh, qA with
          | 0, _, _ => exact .inl ⟨rfl, op_mv rfl (hs 0 rfl)⟩
          | 1, _, _ => exact .inl ⟨rfl, pure_b (bool_eq K0.out) (⟨_, op_geqI rfl (hd 0 rfl) rfl, rfl⟩)⟩
          | 2, _, _ => exact .inl ⟨rfl, op_mv rfl (hd 1 rfl)⟩
          | 3, _, _ => exact .inl ⟨⟨rfl, .inl (hd 2 rfl)⟩, op_mv rfl (hs 0 rfl)⟩
          | 4, _, _ => exact .inl ⟨⟨rfl, .inl (hd 2 rfl)⟩, pure_b (bool_eq K1.out) (⟨_, op_leqI rfl (hd 3 rfl) rfl, rfl⟩)⟩
          | 5, _, _ => exact .inl ⟨rfl, ⟨_, op_pickT rfl (hd 2 rfl) (hd 4 rfl), rfl⟩⟩
          | 6, _, _ => exact .inl ⟨rfl, op_mv rfl (hd 5 rfl)⟩
          | 7, _, _ => exact .inl ⟨⟨rfl, .inl (hd 6 rfl)⟩, op_mv rfl (hs 1 rfl)⟩
          | 8, _, _ => exact .inl ⟨⟨rfl, .inl (hd 6 rfl)⟩, pure_b (bool_eq K2.out) (⟨_, op_geqI rfl (hd 7 rfl) rfl, rfl⟩)⟩
          | 9, _, _ => exact .inl ⟨rfl, ⟨_, op_pickT rfl (hd 6 rfl) (hd 8 rfl), rfl⟩⟩
          | 10, _, _ => exact .inl ⟨rfl, op_mv rfl (hd 9 rfl)⟩
          | 11, _, _ => exact .inl ⟨⟨rfl, .inl (hd 10 rfl)⟩, op_mv rfl (hs 1 rfl)⟩
          | 12, _, _ => exact .inl ⟨⟨rfl, .inl (hd 10 rfl)⟩, pure_b (bool_eq K3.out) (⟨_, op_leqI rfl (hd 11 rfl) rfl, rfl⟩)⟩
          | 13, _, _ => exact .inl ⟨rfl, ⟨_, op_pickT rfl (hd 10 rfl) (hd 12 rfl), rfl⟩⟩
          | qi + 14, h, _ => omega
        intro vs X1 hb hv hal hne
        replace HB := Hd.mk (bel_then HB.out hb)
        replace HE := Hd.mk (HE.out.to hb)
        have e18 : vs 18 = .bool false := hv 13 (by decide) rfl
        simp only [PA, e18]
        clear hv hal hne hb e18
        go_wp2_with fail
        go_ret
        exact ⟨_, rfl, HB.out, rfl⟩
      rw [show sizeB Wd Ht = false by unfold sizeB; simp [h0, h1, h2] <;> omega]
      have K2 := Hd.mk (decide_eq_false h2)
      go_enter Try.func25, Try.ntmps25
      go_upto_region 1 with fail
      have HE : Hd (Env w []) := ⟨trivial⟩
      have HB : Hd (Below w.heap.size w w) := ⟨Below.refl _ _⟩
      refine wp_region_vd 14 [5, 6, 7, 8, 9, 10, 11, 12, 13, 14, 15, 16, 17, 18] [0, 1, 2, 3, 4, 5, 6, 7, 8, 9, 10, 13] [] 84 [.int .i64 0, .int .i64 0] [isV (.int .i64 Wd), isV (.bool true), isV (.bool true), isV (.int .i64 Wd), isV (.bool true), isV (.bool true), isV (.bool true), isV (.int .i64 Ht), isV (.bool false), isV (.bool false), isV (.bool false), isV undef, isV undef, isV (.bool false)] (by rfl) alloc_Z ?_ ?_
      · intro qi qh qA aa wx hb hs hd
        match qi, qh, qA with
        | 0, _, _ => exact .inl ⟨rfl, op_mv rfl (hs 0 rfl)⟩
        | 1, _, _ => exact .inl ⟨rfl, pure_b (bool_eq K0.out) (⟨_, op_geqI rfl (hd 0 rfl) rfl, rfl⟩)⟩
        | 2, _, _ => exact .inl ⟨rfl, op_mv rfl (hd 1 rfl)⟩
        | 3, _, _ => exact .inl ⟨⟨rfl, .inl (hd 2 rfl)⟩, op_mv rfl (hs 0 rfl)⟩
        | 4, _, _ => exact .inl ⟨⟨rfl, .inl (hd 2 rfl)⟩, pure_b (bool_eq K1.out) (⟨_, op_leqI rfl (hd 3 rfl) rfl, rfl⟩)⟩
        | 5, _, _ => exact .inl ⟨rfl, ⟨_, op_pickT rfl (hd 2 rfl) (hd 4 rfl), rfl⟩⟩
        | 6, _, _ => exact .inl ⟨rfl, op_mv rfl (hd 5 rfl)⟩
        | 7, _, _ => exact .inl ⟨⟨rfl, .inl (hd 6 rfl)⟩, op_mv rfl (hs 1 rfl)⟩
        | 8, _, _ => exact .inl ⟨⟨rfl, .inl (hd 6 rfl)⟩, pure_b (bool_eq K2.out) (⟨_, op_geqI rfl (hd 7 rfl) rfl, rfl⟩)⟩
        | 9, _, _ => exact .inl ⟨rfl, ⟨_, op_pickT rfl (hd 6 rfl) (hd 8 rfl), rfl⟩⟩
        | 10, _, _ => exact .inl ⟨rfl, op_mv rfl (hd 9 rfl)⟩
        | 11, _, _ => exact .inr ⟨⟨rfl, .inl (hd 10 rfl)⟩, rfl⟩
        | 12, _, _ => exact .inr ⟨⟨rfl, .inl (hd 10 rfl)⟩, rfl⟩
        | 13, _, _ => exact .inl ⟨rfl, ⟨_, op_pickF rfl (hd 10 rfl) rfl, rfl⟩⟩
        | qi + 14, h, _ => omega
      intro vs X1 hb hv hal hne
      replace HB := Hd.mk (bel_then HB.out hb)
      replace HE := Hd.mk (HE.out.to hb)
      have e18 : vs 18 = .bool false := hv 13 (by decide) rfl
      simp only [PA, e18]
      clear hv hal hne hb e18
      go_wp2_with fail
      go_ret
      exact ⟨_, rfl, HB.out, rfl⟩
    rw [show sizeB Wd Ht = false by unfold sizeB; simp [h0, h1] <;> omega]
    have K1 := Hd.mk (decide_eq_false h1)
    go_enter Try.func25, Try.ntmps25
    go_upto_region 1 with fail
    have HE : Hd (Env w []) := ⟨trivial⟩
    have HB : Hd (Below w.heap.size w w) := ⟨Below.refl _ _⟩
    refine wp_region_vd 14 [5, 6, 7, 8, 9, 10, 11, 12, 13, 14, 15, 16, 17, 18] [0, 1, 2, 3, 4, 5, 6, 9, 10, 13] [] 84 [.int .i64 0, .int .i64 0] [isV (.int .i64 Wd), isV (.bool true), isV (.bool true), isV (.int .i64 Wd), isV (.bool false), isV (.bool false), isV (.bool false), isV undef, isV undef, isV (.bool false), isV (.bool false), isV undef, isV undef, isV (.bool false)] (by rfl) alloc_Z ?_ ?_
    · intro qi qh qA aa wx hb hs hd
      match qi, qh, qA with
      | 0, _, _ => exact .inl ⟨rfl, op_mv rfl (hs 0 rfl)⟩
      | 1, _, _ => exact .inl ⟨rfl, pure_b (bool_eq K0.out) (⟨_, op_geqI rfl (hd 0 rfl) rfl, rfl⟩)⟩
      | 2, _, _ => exact .inl ⟨rfl, op_mv rfl (hd 1 rfl)⟩
      | 3, _, _ => exact .inl ⟨⟨rfl, .inl (hd 2 rfl)⟩, op_mv rfl (hs 0 rfl)⟩
      | 4, _, _ => exact .inl ⟨⟨rfl, .inl (hd 2 rfl)⟩, pure_b (bool_eq K1.out) (⟨_, op_leqI rfl (hd 3 rfl) rfl, rfl⟩)⟩
      | 5, _, _ => exact .inl ⟨rfl, ⟨_, op_pickT rfl (hd 2 rfl) (hd 4 rfl), rfl⟩⟩
      | 6, _, _ => exact .inl ⟨rfl, op_mv rfl (hd 5 rfl)⟩
      | 7, _, _ => exact .inr ⟨⟨rfl, .inl (hd 6 rfl)⟩, rfl⟩
      | 8, _, _ => exact .inr ⟨⟨rfl, .inl (hd 6 rfl)⟩, rfl⟩
      | 9, _, _ => exact .inl ⟨rfl, ⟨_, op_pickF rfl (hd 6 rfl) rfl, rfl⟩⟩
      | 10, _, _ => exact .inl ⟨rfl, op_mv rfl (hd 9 rfl)⟩
      | 11, _, _ => exact .inr ⟨⟨rfl, .inl (hd 10 rfl)⟩, rfl⟩
      | 12, _, _ => exact .inr ⟨⟨rfl, .inl (hd 10 rfl)⟩, rfl⟩
      | 13, _, _ => exact .inl ⟨rfl, ⟨_, op_pickF rfl (hd 10 rfl) rfl, rfl⟩⟩
      | qi + 14, h, _ => omega
    intro vs X1 hb hv hal hne
    replace HB := Hd.mk (bel_then HB.out hb)
    replace HE := Hd.mk (HE.out.to hb)
    have e18 : vs 18 = .bool false := hv 13 (by decide) rfl
    simp only [PA, e18]
    clear hv hal hne hb e18
    go_wp2_with fail
    go_ret
    exact ⟨_, rfl, HB.out, rfl⟩
  rw [show sizeB Wd Ht = false by unfold sizeB; simp [h0] <;> omega]
  have K0 := Hd.mk (decide_eq_false h0)
  go_enter Try.func25, Try.ntmps25
  go_upto_region 1 with fail
  have HE : Hd (Env w []) := ⟨trivial⟩
  have HB : Hd (Below w.heap.size w w) := ⟨Below.refl _ _⟩
  refine wp_region_vd 14 [5, 6, 7, 8, 9, 10, 11, 12, 13, 14, 15, 16, 17, 18] [0, 1, 2, 5, 6, 9, 10, 13] [] 84 [.int .i64 0, .int .i64 0] [isV (.int .i64 Wd), isV (.bool false), isV (.bool false), isV undef, isV undef, isV (.bool false), isV (.bool false), isV undef, isV undef, isV (.bool false), isV (.bool false), isV undef, isV undef, isV (.bool false)] (by rfl) alloc_Z ?_ ?_
  · intro qi qh qA aa wx hb hs hd
    match qi, qh, qA with
    | 0, _, _ => exact .inl ⟨rfl, op_mv rfl (hs 0 rfl)⟩
    | 1, _, _ => exact .inl ⟨rfl, pure_b (bool_eq K0.out) (⟨_, op_geqI rfl (hd 0 rfl) rfl, rfl⟩)⟩
    | 2, _, _ => exact .inl ⟨rfl, op_mv rfl (hd 1 rfl)⟩
    | 3, _, _ => exact .inr ⟨⟨rfl, .inl (hd 2 rfl)⟩, rfl⟩
    | 4, _, _ => exact .inr ⟨⟨rfl, .inl (hd 2 rfl)⟩, rfl⟩
    | 5, _, _ => exact .inl ⟨rfl, ⟨_, op_pickF rfl (hd 2 rfl) rfl, rfl⟩⟩
    | 6, _, _ => exact .inl ⟨rfl, op_mv rfl (hd 5 rfl)⟩
    | 7, _, _ => exact .inr ⟨⟨rfl, .inl (hd 6 rfl)⟩, rfl⟩
    | 8, _, _ => exact .inr ⟨⟨rfl, .inl (hd 6 rfl)⟩, rfl⟩
    | 9, _, _ => exact .inl ⟨rfl, ⟨_, op_pickF rfl (hd 6 rfl) rfl, rfl⟩⟩
    | 10, _, _ => exact .inl ⟨rfl, op_mv rfl (hd 9 rfl)⟩
    | 11, _, _ => exact .inr ⟨⟨rfl, .inl (hd 10 rfl)⟩, rfl⟩
    | 12, _, _ => exact .inr ⟨⟨rfl, .inl (hd 10 rfl)⟩, rfl⟩
    | 13, _, _ => exact .inl ⟨rfl, ⟨_, op_pickF rfl (hd 10 rfl) rfl, rfl⟩⟩
    | qi + 14, h, _ => omega
  intro vs X1 hb hv hal hne
  replace HB := Hd.mk (bel_then HB.out hb)
  replace HE := Hd.mk (HE.out.to hb)
  have e18 : vs 18 = .bool false := hv 13 (by decide) rfl
  simp only [PA, e18]
  clear hv hal hne hb e18
  go_wp2_with fail
  go_ret
  exact ⟨_, rfl, HB.out, rfl⟩
set_option maxRecDepth 100000 in
set_option maxHeartbeats 1000000 in
theorem allows_got (Wd Ht x y t : Int) (f : Bool) (w : World) :
    Calls Try.prog 51 #[.agg #[.int .i64 Wd, .int .i64 Ht], .agg #[.int .i64 x, .int .i64 y, .int .i64 t, .bool f]] w (Got w (isV (.bool (alB Wd Ht x y t))).p) := by
  by_cases h0 : 0 ≤ x
  · have K0 := Hd.mk (decide_eq_true h0)
    by_cases h1 : x < Wd
    · have K1 := Hd.mk (decide_eq_true h1)
      by_cases h2 : 0 ≤ y
      · have K2 := Hd.mk (decide_eq_true h2)
        by_cases h3 : y < Ht
        · have K3 := Hd.mk (decide_eq_true h3)
          by_cases h4 : 0 ≤ t
          · have K4 := Hd.mk (decide_eq_true h4)
            by_cases h5 : t < 4
            · have K5 := Hd.mk (decide_eq_true h5)
              by_cases h6 : t % 2 = 0
              · rw [show alB Wd Ht x y t = true by unfold alB; simp [h0, h1, h2, h3, h4, h5, h6] <;> omega]
                have KE := Hd.mk (show decide (Int.tmod t 2 = 0) = true by rw [tmod_nonneg (by omega)]; exact decide_eq_true h6)
                clear h6
                go_enter Try.func51, Try.ntmps51
                go_upto_region 1 with fail
                obtain ⟨W0, hW0⟩ : ∃ W : World, W = (w.alloc (.cells #[.int .i64 Wd, .int .i64 Ht] 84)).alloc (.cells #[.int .i64 x, .int .i64 y, .int .i64 t, .bool f] 31) := ⟨_, rfl⟩
                rw [← hW0]
                obtain ⟨he, hb⟩ := env_two hW0
                have HE := Hd.mk he
                have HB := Hd.mk hb
                clear he hb hW0
                refine wp_region_vd 45 [5, 6, 7, 8, 9, 10, 11, 12, 13, 14, 15, 16, 17, 18, 19, 20, 21, 22, 23, 24, 25, 26, 27, 28, 29, 30, 31, 32, 33, 34, 35, 36, 37, 38, 39, 40, 41, 42, 43, 44, 45, 46, 47, 48, 49] [0, 2, 3, 4, 6, 8, 9, 10, 11, 13, 14, 15, 16, 18, 20, 21, 22, 23, 25, 26, 27, 28, 30, 31, 32, 33, 36, 37, 43, 44] [] 84 [.int .i64 0, .int .i64 0] [isV (.pointer (some ⟨w.heap.size + 1, 0, none⟩)), isV (.int .i64 x), isV (.bool true), isV (.bool true), isV (.pointer (some ⟨w.heap.size + 1, 0, none⟩)), isV (.int .i64 x), isV (.pointer (some ⟨w.heap.size, 0, none⟩)), isV (.int .i64 Wd), isV (.bool true), isV (.bool true), isV (.bool true), isV (.pointer (some ⟨w.heap.size + 1, 1, none⟩)), isV (.int .i64 y), isV (.bool true), isV (.bool true), isV (.bool true), isV (.pointer (some ⟨w.heap.size + 1, 1, none⟩)), isV (.int .i64 y), isV (.pointer (some ⟨w.heap.size, 1, none⟩)), isV (.int .i64 Ht), isV (.bool true), isV (.bool true), isV (.bool true), isV (.pointer (some ⟨w.heap.size + 1, 2, none⟩)), isV (.int .i64 t), isV (.bool true), isV (.bool true), isV (.bool true), isV (.pointer (some ⟨w.heap.size + 1, 2, none⟩)), isV (.int .i64 t), isV (.bool true), isV (.bool true), isV (.bool true), isV (.pointer (some ⟨w.heap.size + 1, 2, none⟩)), isV (.int .i64 t), isV (.int .i64 (Int.tmod t 2)), isV (.bool true), isV (.bool true), isV undef, isV undef, isV undef, isV undef, isV undef, isV (.bool true), isV (.bool true)] (by rfl) alloc_Z ?_ ?_
                · intro qi qh qA aa wx hb hs hd
                  match qi, qh, qA with
                  | 0, _, _ => exact .inl ⟨rfl, ⟨_, op_faM0 rfl (hs 3 rfl), rfl⟩⟩
                  | 1, _, _ => exact .inl ⟨rfl, op_ldI rfl rfl (hd 0 rfl) ((HE.out.to hb).cell 1 0 rfl rfl)⟩
                  | 2, _, _ => exact .inl ⟨rfl, pure_b (bool_eq K0.out) (⟨_, op_geqI rfl (hd 1 rfl) rfl, rfl⟩)⟩
                  | 3, _, _ => exact .inl ⟨rfl, op_mv rfl (hd 2 rfl)⟩
                  | 4, _, _ => exact .inl ⟨⟨rfl, .inl (hd 3 rfl)⟩, ⟨_, op_faM0 rfl (hs 3 rfl), rfl⟩⟩
                  | 5, _, _ => exact .inl ⟨⟨rfl, .inl (hd 3 rfl)⟩, op_ldI rfl rfl (hd 4 rfl) ((HE.out.to hb).cell 1 0 rfl rfl)⟩
                  | 6, _, _ => exact .inl ⟨⟨rfl, .inl (hd 3 rfl)⟩, ⟨_, op_faZ0 rfl (hs 2 rfl), rfl⟩⟩
                  | 7, _, _ => exact .inl ⟨⟨rfl, .inl (hd 3 rfl)⟩, op_ldI rfl rfl (hd 6 rfl) ((HE.out.to hb).cell 0 0 rfl rfl)⟩
                  | 8, _, _ => exact .inl ⟨⟨rfl, .inl (hd 3 rfl)⟩, pure_b (bool_eq K1.out) (⟨_, op_lssI rfl (hd 5 rfl) (hd 7 rfl), rfl⟩)⟩
                  | 9, _, _ => exact .inl ⟨rfl, ⟨_, op_pickT rfl (hd 3 rfl) (hd 8 rfl), rfl⟩⟩
                  | 10, _, _ => exact .inl ⟨rfl, op_mv rfl (hd 9 rfl)⟩
                  | 11, _, _ => exact .inl ⟨⟨rfl, .inl (hd 10 rfl)⟩, ⟨_, op_faM1 rfl (hs 3 rfl), rfl⟩⟩
                  | 12, _, _ => exact .inl ⟨⟨rfl, .inl (hd 10 rfl)⟩, op_ldI rfl rfl (hd 11 rfl) ((HE.out.to hb).cell 1 1 rfl rfl)⟩
                  | 13, _, _ => exact .inl ⟨⟨rfl, .inl (hd 10 rfl)⟩, pure_b (bool_eq K2.out) (⟨_, op_geqI rfl (hd 12 rfl) rfl, rfl⟩)⟩
                  | 14, _, _ => exact .inl ⟨rfl, ⟨_, op_pickT rfl (hd 10 rfl) (hd 13 rfl), rfl⟩⟩
                  | 15, _, _ => exact .inl ⟨rfl, op_mv rfl (hd 14 rfl)⟩
                  | 16, _, _ => exact .inl ⟨⟨rfl, .inl (hd 15 rfl)⟩, ⟨_, op_faM1 rfl (hs 3 rfl), rfl⟩⟩
                  | 17, _, _ => exact .inl ⟨⟨rfl, .inl (hd 15 rfl)⟩, op_ldI rfl rfl (hd 16 rfl) ((HE.out.to hb).cell 1 1 rfl rfl)⟩
                  | 18, _, _ => exact .inl ⟨⟨rfl, .inl (hd 15 rfl)⟩, ⟨_, op_faZ1 rfl (hs 2 rfl), rfl⟩⟩
                  | 19, _, _ => exact .inl ⟨⟨rfl, .inl (hd 15 rfl)⟩, op_ldI rfl rfl (hd 18 rfl) ((HE.out.to hb).cell 0 1 rfl rfl)⟩
                  | 20, _, _ => exact .inl ⟨⟨rfl, .inl (hd 15 rfl)⟩, pure_b (bool_eq K3.out) (⟨_, op_lssI rfl (hd 17 rfl) (hd 19 rfl), rfl⟩)⟩
                  | 21, _, _ => exact .inl ⟨rfl, ⟨_, op_pickT rfl (hd 15 rfl) (hd 20 rfl), rfl⟩⟩
                  | 22, _, _ => exact .inl ⟨rfl, op_mv rfl (hd 21 rfl)⟩
                  | 23, _, _ => exact .inl ⟨⟨rfl, .inl (hd 22 rfl)⟩, ⟨_, op_faM2 rfl (hs 3 rfl), rfl⟩⟩
                  | 24, _, _ => exact .inl ⟨⟨rfl, .inl (hd 22 rfl)⟩, op_ldI rfl rfl (hd 23 rfl) ((HE.out.to hb).cell 1 2 rfl rfl)⟩
                  | 25, _, _ => exact .inl ⟨⟨rfl, .inl (hd 22 rfl)⟩, pure_b (bool_eq K4.out) (⟨_, op_geqI rfl (hd 24 rfl) rfl, rfl⟩)⟩
                  | 26, _, _ => exact .inl ⟨rfl, ⟨_, op_pickT rfl (hd 22 rfl) (hd 25 rfl), rfl⟩⟩
                  | 27, _, _ => exact .inl ⟨rfl, op_mv rfl (hd 26 rfl)⟩
                  | 28, _, _ => exact .inl ⟨⟨rfl, .inl (hd 27 rfl)⟩, ⟨_, op_faM2 rfl (hs 3 rfl), rfl⟩⟩
                  | 29, _, _ => exact .inl ⟨⟨rfl, .inl (hd 27 rfl)⟩, op_ldI rfl rfl (hd 28 rfl) ((HE.out.to hb).cell 1 2 rfl rfl)⟩
                  | 30, _, _ => exact .inl ⟨⟨rfl, .inl (hd 27 rfl)⟩, pure_b (bool_eq K5.out) (⟨_, op_lssI rfl (hd 29 rfl) rfl, rfl⟩)⟩
                  | 31, _, _ => exact .inl ⟨rfl, ⟨_, op_pickT rfl (hd 27 rfl) (hd 30 rfl), rfl⟩⟩
                  | 32, _, _ => exact .inl ⟨rfl, op_mv rfl (hd 31 rfl)⟩
                  | 33, _, _ => exact .inl ⟨⟨rfl, .inl (hd 32 rfl)⟩, ⟨_, op_faM2 rfl (hs 3 rfl), rfl⟩⟩
                  | 34, _, _ => exact .inl ⟨⟨rfl, .inl (hd 32 rfl)⟩, op_ldI rfl rfl (hd 33 rfl) ((HE.out.to hb).cell 1 2 rfl rfl)⟩
                  | 35, _, _ => exact .inl ⟨⟨rfl, .inl (hd 32 rfl)⟩, op_run rfl (op_rem (by omega) (by unfold Fit; omega) (by omega) rfl (hd 34 rfl) rfl _) rfl⟩
                  | 36, _, _ => exact .inl ⟨⟨rfl, .inl (hd 32 rfl)⟩, pure_b (bool_eq KE.out) (⟨_, op_eqlI rfl (hd 35 rfl) rfl, rfl⟩)⟩
                  | 37, _, _ => exact .inl ⟨⟨rfl, .inl (hd 32 rfl)⟩, op_mv rfl (hd 36 rfl)⟩
                  | 38, _, _ => exact .inr ⟨⟨rfl, .inl (hd 37 rfl)⟩, rfl⟩
                  | 39, _, _ => exact .inr ⟨⟨rfl, .inl (hd 37 rfl)⟩, rfl⟩
                  | 40, _, _ => exact .inr ⟨⟨rfl, .inl (hd 37 rfl)⟩, rfl⟩
                  | 41, _, _ => exact .inr ⟨⟨rfl, .inl (hd 37 rfl)⟩, rfl⟩
                  | 42, _, _ => exact .inr ⟨⟨rfl, .inl (hd 37 rfl)⟩, rfl⟩
                  | 43, _, _ => exact .inl ⟨⟨rfl, .inl (hd 32 rfl)⟩, ⟨_, op_pickT rfl (hd 37 rfl) rfl, rfl⟩⟩
                  | 44, _, _ => exact .inl ⟨rfl, ⟨_, op_pickT rfl (hd 32 rfl) (hd 43 rfl), rfl⟩⟩
                  | qi + 45, h, _ => omega
                intro vs X1 hb hv hal hne
                replace HB := Hd.mk (bel_then HB.out hb)
                replace HE := Hd.mk (HE.out.to hb)
                have e49 : vs 49 = .bool true := hv 44 (by decide) rfl
                simp only [PA, e49]
                clear hv hal hne hb e49
                go_wp2_with fail
                go_ret
                exact ⟨_, rfl, HB.out, rfl⟩
              have KE := Hd.mk (show decide (Int.tmod t 2 = 0) = false by rw [tmod_nonneg (by omega)]; exact decide_eq_false h6)
              by_cases h7 : Wd = Ht
              · rw [show alB Wd Ht x y t = true by unfold alB; simp [h0, h1, h2, h3, h4, h5, h7] <;> omega]
                have KQ := Hd.mk (decide_eq_true h7)
                clear h6 h7
                go_enter Try.func51, Try.ntmps51
                go_upto_region 1 with fail
                obtain ⟨W0, hW0⟩ : ∃ W : World, W = (w.alloc (.cells #[.int .i64 Wd, .int .i64 Ht] 84)).alloc (.cells #[.int .i64 x, .int .i64 y, .int .i64 t, .bool f] 31) := ⟨_, rfl⟩
                rw [← hW0]
                obtain ⟨he, hb⟩ := env_two hW0
                have HE := Hd.mk he
                have HB := Hd.mk hb
                clear he hb hW0
                refine wp_region_vd 45 [5, 6, 7, 8, 9, 10, 11, 12, 13, 14, 15, 16, 17, 18, 19, 20, 21, 22, 23, 24, 25, 26, 27, 28, 29, 30, 31, 32, 33, 34, 35, 36, 37, 38, 39, 40, 41, 42, 43, 44, 45, 46, 47, 48, 49] [0, 2, 3, 4, 6, 8, 9, 10, 11, 13, 14, 15, 16, 18, 20, 21, 22, 23, 25, 26, 27, 28, 30, 31, 32, 33, 36, 37, 38, 40, 42, 43, 44] [] 84 [.int .i64 0, .int .i64 0] [isV (.pointer (some ⟨w.heap.size + 1, 0, none⟩)), isV (.int .i64 x), isV (.bool true), isV (.bool true), isV (.pointer (some ⟨w.heap.size + 1, 0, none⟩)), isV (.int .i64 x), isV (.pointer (some ⟨w.heap.size, 0, none⟩)), isV (.int .i64 Wd), isV (.bool true), isV (.bool true), isV (.bool true), isV (.pointer (some ⟨w.heap.size + 1, 1, none⟩)), isV (.int .i64 y), isV (.bool true), isV (.bool true), isV (.bool true), isV (.pointer (some ⟨w.heap.size + 1, 1, none⟩)), isV (.int .i64 y), isV (.pointer (some ⟨w.heap.size, 1, none⟩)), isV (.int .i64 Ht), isV (.bool true), isV (.bool true), isV (.bool true), isV (.pointer (some ⟨w.heap.size + 1, 2, none⟩)), isV (.int .i64 t), isV (.bool true), isV (.bool true), isV (.bool true), isV (.pointer (some ⟨w.heap.size + 1, 2, none⟩)), isV (.int .i64 t), isV (.bool true), isV (.bool true), isV (.bool true), isV (.pointer (some ⟨w.heap.size + 1, 2, none⟩)), isV (.int .i64 t), isV (.int .i64 (Int.tmod t 2)), isV (.bool false), isV (.bool false), isV (.pointer (some ⟨w.heap.size, 0, none⟩)), isV (.int .i64 Wd), isV (.pointer (some ⟨w.heap.size, 1, none⟩)), isV (.int .i64 Ht), isV (.bool true), isV (.bool true), isV (.bool true)] (by rfl) alloc_Z ?_ ?_
                · intro qi qh qA aa wx hb hs hd
                  match qi, qh, qA with
                  | 0, _, _ => exact .inl ⟨rfl, ⟨_, op_faM0 rfl (hs 3 rfl), rfl⟩⟩
                  | 1, _, _ => exact .inl ⟨rfl, op_ldI rfl rfl (hd 0 rfl) ((HE.out.to hb).cell 1 0 rfl rfl)⟩
                  | 2, _, _ => exact .inl ⟨rfl, pure_b (bool_eq K0.out) (⟨_, op_geqI rfl (hd 1 rfl) rfl, rfl⟩)⟩
                  | 3, _, _ => exact .inl ⟨rfl, op_mv rfl (hd 2 rfl)⟩
                  | 4, _, _ => exact .inl ⟨⟨rfl, .inl (hd 3 rfl)⟩, ⟨_, op_faM0 rfl (hs 3 rfl), rfl⟩⟩
                  | 5, _, _ => exact .inl ⟨⟨rfl, .inl (hd 3 rfl)⟩, op_ldI rfl rfl (hd 4 rfl) ((HE.out.to hb).cell 1 0 rfl rfl)⟩
                  | 6, _, _ => exact .inl ⟨⟨rfl, .inl (hd 3 rfl)⟩, ⟨_, op_faZ0 rfl (hs 2 rfl), rfl⟩⟩
                  | 7, _, _ => exact .inl ⟨⟨rfl, .inl (hd 3 rfl)⟩, op_ldI rfl rfl (hd 6 rfl) ((HE.out.to hb).cell 0 0 rfl rfl)⟩
                  | 8, _, _ => exact .inl ⟨⟨rfl, .inl (hd 3 rfl)⟩, pure_b (bool_eq K1.out) (⟨_, op_lssI rfl (hd 5 rfl) (hd 7 rfl), rfl⟩)⟩
                  | 9, _, _ => exact .inl ⟨rfl, ⟨_, op_pickT rfl (hd 3 rfl) (hd 8 rfl), rfl⟩⟩
                  | 10, _, _ => exact .inl ⟨rfl, op_mv rfl (hd 9 rfl)⟩
                  | 11, _, _ => exact .inl ⟨⟨rfl, .inl (hd 10 rfl)⟩, ⟨_, op_faM1 rfl (hs 3 rfl), rfl⟩⟩
                  | 12, _, _ => exact .inl ⟨⟨rfl, .inl (hd 10 rfl)⟩, op_ldI rfl rfl (hd 11 rfl) ((HE.out.to hb).cell 1 1 rfl rfl)⟩
                  | 13, _, _ => exact .inl ⟨⟨rfl, .inl (hd 10 rfl)⟩, pure_b (bool_eq K2.out) (⟨_, op_geqI rfl (hd 12 rfl) rfl, rfl⟩)⟩
                  | 14, _, _ => exact .inl ⟨rfl, ⟨_, op_pickT rfl (hd 10 rfl) (hd 13 rfl), rfl⟩⟩
                  | 15, _, _ => exact .inl ⟨rfl, op_mv rfl (hd 14 rfl)⟩
                  | 16, _, _ => exact .inl ⟨⟨rfl, .inl (hd 15 rfl)⟩, ⟨_, op_faM1 rfl (hs 3 rfl), rfl⟩⟩
                  | 17, _, _ => exact .inl ⟨⟨rfl, .inl (hd 15 rfl)⟩, op_ldI rfl rfl (hd 16 rfl) ((HE.out.to hb).cell 1 1 rfl rfl)⟩
                  | 18, _, _ => exact .inl ⟨⟨rfl, .inl (hd 15 rfl)⟩, ⟨_, op_faZ1 rfl (hs 2 rfl), rfl⟩⟩
                  | 19, _, _ => exact .inl ⟨⟨rfl, .inl (hd 15 rfl)⟩, op_ldI rfl rfl (hd 18 rfl) ((HE.out.to hb).cell 0 1 rfl rfl)⟩
                  | 20, _, _ => exact .inl ⟨⟨rfl, .inl (hd 15 rfl)⟩, pure_b (bool_eq K3.out) (⟨_, op_lssI rfl (hd 17 rfl) (hd 19 rfl), rfl⟩)⟩
                  | 21, _, _ => exact .inl ⟨rfl, ⟨_, op_pickT rfl (hd 15 rfl) (hd 20 rfl), rfl⟩⟩
                  | 22, _, _ => exact .inl ⟨rfl, op_mv rfl (hd 21 rfl)⟩
                  | 23, _, _ => exact .inl ⟨⟨rfl, .inl (hd 22 rfl)⟩, ⟨_, op_faM2 rfl (hs 3 rfl), rfl⟩⟩
                  | 24, _, _ => exact .inl ⟨⟨rfl, .inl (hd 22 rfl)⟩, op_ldI rfl rfl (hd 23 rfl) ((HE.out.to hb).cell 1 2 rfl rfl)⟩
                  | 25, _, _ => exact .inl ⟨⟨rfl, .inl (hd 22 rfl)⟩, pure_b (bool_eq K4.out) (⟨_, op_geqI rfl (hd 24 rfl) rfl, rfl⟩)⟩
                  | 26, _, _ => exact .inl ⟨rfl, ⟨_, op_pickT rfl (hd 22 rfl) (hd 25 rfl), rfl⟩⟩
                  | 27, _, _ => exact .inl ⟨rfl, op_mv rfl (hd 26 rfl)⟩
                  | 28, _, _ => exact .inl ⟨⟨rfl, .inl (hd 27 rfl)⟩, ⟨_, op_faM2 rfl (hs 3 rfl), rfl⟩⟩
                  | 29, _, _ => exact .inl ⟨⟨rfl, .inl (hd 27 rfl)⟩, op_ldI rfl rfl (hd 28 rfl) ((HE.out.to hb).cell 1 2 rfl rfl)⟩
                  | 30, _, _ => exact .inl ⟨⟨rfl, .inl (hd 27 rfl)⟩, pure_b (bool_eq K5.out) (⟨_, op_lssI rfl (hd 29 rfl) rfl, rfl⟩)⟩
                  | 31, _, _ => exact .inl ⟨rfl, ⟨_, op_pickT rfl (hd 27 rfl) (hd 30 rfl), rfl⟩⟩
                  | 32, _, _ => exact .inl ⟨rfl, op_mv rfl (hd 31 rfl)⟩
                  | 33, _, _ => exact .inl ⟨⟨rfl, .inl (hd 32 rfl)⟩, ⟨_, op_faM2 rfl (hs 3 rfl), rfl⟩⟩
                  | 34, _, _ => exact .inl ⟨⟨rfl, .inl (hd 32 rfl)⟩, op_ldI rfl rfl (hd 33 rfl) ((HE.out.to hb).cell 1 2 rfl rfl)⟩
                  | 35, _, _ => exact .inl ⟨⟨rfl, .inl (hd 32 rfl)⟩, op_run rfl (op_rem (by omega) (by unfold Fit; omega) (by omega) rfl (hd 34 rfl) rfl _) rfl⟩
                  | 36, _, _ => exact .inl ⟨⟨rfl, .inl (hd 32 rfl)⟩, pure_b (bool_eq KE.out) (⟨_, op_eqlI rfl (hd 35 rfl) rfl, rfl⟩)⟩
                  | 37, _, _ => exact .inl ⟨⟨rfl, .inl (hd 32 rfl)⟩, op_mv rfl (hd 36 rfl)⟩
                  | 38, _, _ => exact .inl ⟨⟨rfl, .inl (hd 37 rfl)⟩, ⟨_, op_faZ0 rfl (hs 2 rfl), rfl⟩⟩
                  | 39, _, _ => exact .inl ⟨⟨rfl, .inl (hd 37 rfl)⟩, op_ldI rfl rfl (hd 38 rfl) ((HE.out.to hb).cell 0 0 rfl rfl)⟩
                  | 40, _, _ => exact .inl ⟨⟨rfl, .inl (hd 37 rfl)⟩, ⟨_, op_faZ1 rfl (hs 2 rfl), rfl⟩⟩
                  | 41, _, _ => exact .inl ⟨⟨rfl, .inl (hd 37 rfl)⟩, op_ldI rfl rfl (hd 40 rfl) ((HE.out.to hb).cell 0 1 rfl rfl)⟩
                  | 42, _, _ => exact .inl ⟨⟨rfl, .inl (hd 37 rfl)⟩, pure_b (bool_eq KQ.out) (⟨_, op_eqlI rfl (hd 39 rfl) (hd 41 rfl), rfl⟩)⟩
                  | 43, _, _ => exact .inl ⟨⟨rfl, .inl (hd 32 rfl)⟩, ⟨_, op_pickF rfl (hd 37 rfl) (hd 42 rfl), rfl⟩⟩
                  | 44, _, _ => exact .inl ⟨rfl, ⟨_, op_pickT rfl (hd 32 rfl) (hd 43 rfl), rfl⟩⟩
                  | qi + 45, h, _ => omega
                intro vs X1 hb hv hal hne
                replace HB := Hd.mk (bel_then HB.out hb)
                replace HE := Hd.mk (HE.out.to hb)
                have e49 : vs 49 = .bool true := hv 44 (by decide) rfl
                simp only [PA, e49]
                clear hv hal hne hb e49
                go_wp2_with fail
                go_ret
                exact ⟨_, rfl, HB.out, rfl⟩
              rw [show alB Wd Ht x y t = false by unfold alB; simp [h0, h1, h2, h3, h4, h5, h6, h7] <;> omega]
              have KQ := Hd.mk (decide_eq_false h7)
              clear h6 h7
              go_enter Try.func51, Try.ntmps51
              go_upto_region 1 with fail
              obtain ⟨W0, hW0⟩ : ∃ W : World, W = (w.alloc (.cells #[.int .i64 Wd, .int .i64 Ht] 84)).alloc (.cells #[.int .i64 x, .int .i64 y, .int .i64 t, .bool f] 31) := ⟨_, rfl⟩
              rw [← hW0]
              obtain ⟨he, hb⟩ := env_two hW0
              have HE := Hd.mk he
              have HB := Hd.mk hb
              clear he hb hW0
              refine wp_region_vd 45 [5, 6, 7, 8, 9, 10, 11, 12, 13, 14, 15, 16, 17, 18, 19, 20, 21, 22, 23, 24, 25, 26, 27, 28, 29, 30, 31, 32, 33, 34, 35, 36, 37, 38, 39, 40, 41, 42, 43, 44, 45, 46, 47, 48, 49] [0, 2, 3, 4, 6, 8, 9, 10, 11, 13, 14, 15, 16, 18, 20, 21, 22, 23, 25, 26, 27, 28, 30, 31, 32, 33, 36, 37, 38, 40, 42, 43, 44] [] 84 [.int .i64 0, .int .i64 0] [isV (.pointer (some ⟨w.heap.size + 1, 0, none⟩)), isV (.int .i64 x), isV (.bool true), isV (.bool true), isV (.pointer (some ⟨w.heap.size + 1, 0, none⟩)), isV (.int .i64 x), isV (.pointer (some ⟨w.heap.size, 0, none⟩)), isV (.int .i64 Wd), isV (.bool true), isV (.bool true), isV (.bool true), isV (.pointer (some ⟨w.heap.size + 1, 1, none⟩)), isV (.int .i64 y), isV (.bool true), isV (.bool true), isV (.bool true), isV (.pointer (some ⟨w.heap.size + 1, 1, none⟩)), isV (.int .i64 y), isV (.pointer (some ⟨w.heap.size, 1, none⟩)), isV (.int .i64 Ht), isV (.bool true), isV (.bool true), isV (.bool true), isV (.pointer (some ⟨w.heap.size + 1, 2, none⟩)), isV (.int .i64 t), isV (.bool true), isV (.bool true), isV (.bool true), isV (.pointer (some ⟨w.heap.size + 1, 2, none⟩)), isV (.int .i64 t), isV (.bool true), isV (.bool true), isV (.bool true), isV (.pointer (some ⟨w.heap.size + 1, 2, none⟩)), isV (.int .i64 t), isV (.int .i64 (Int.tmod t 2)), isV (.bool false), isV (.bool false), isV (.pointer (some ⟨w.heap.size, 0, none⟩)), isV (.int .i64 Wd), isV (.pointer (some ⟨w.heap.size, 1, none⟩)), isV (.int .i64 Ht), isV (.bool false), isV (.bool false), isV (.bool false)] (by rfl) alloc_Z ?_ ?_
              · intro qi qh qA aa wx hb hs hd
                match qi, qh, qA with
                | 0, _, _ => exact .inl ⟨rfl, ⟨_, op_faM0 rfl (hs 3 rfl), rfl⟩⟩
                | 1, _, _ => exact .inl ⟨rfl, op_ldI rfl rfl (hd 0 rfl) ((HE.out.to hb).cell 1 0 rfl rfl)⟩
                | 2, _, _ => exact .inl ⟨rfl, pure_b (bool_eq K0.out) (⟨_, op_geqI rfl (hd 1 rfl) rfl, rfl⟩)⟩
                | 3, _, _ => exact .inl ⟨rfl, op_mv rfl (hd 2 rfl)⟩
                | 4, _, _ => exact .inl ⟨⟨rfl, .inl (hd 3 rfl)⟩, ⟨_, op_faM0 rfl (hs 3 rfl), rfl⟩⟩
                | 5, _, _ => exact .inl ⟨⟨rfl, .inl (hd 3 rfl)⟩, op_ldI rfl rfl (hd 4 rfl) ((HE.out.to hb).cell 1 0 rfl rfl)⟩
                | 6, _, _ => exact .inl ⟨⟨rfl, .inl (hd 3 rfl)⟩, ⟨_, op_faZ0 rfl (hs 2 rfl), rfl⟩⟩
                | 7, _, _ => exact .inl ⟨⟨rfl, .inl (hd 3 rfl)⟩, op_ldI rfl rfl (hd 6 rfl) ((HE.out.to hb).cell 0 0 rfl rfl)⟩
                | 8, _, _ => exact .inl ⟨⟨rfl, .inl (hd 3 rfl)⟩, pure_b (bool_eq K1.out) (⟨_, op_lssI rfl (hd 5 rfl) (hd 7 rfl), rfl⟩)⟩
                | 9, _, _ => exact .inl ⟨rfl, ⟨_, op_pickT rfl (hd 3 rfl) (hd 8 rfl), rfl⟩⟩
                | 10, _, _ => exact .inl ⟨rfl, op_mv rfl (hd 9 rfl)⟩
                | 11, _, _ => exact .inl ⟨⟨rfl, .inl (hd 10 rfl)⟩, ⟨_, op_faM1 rfl (hs 3 rfl), rfl⟩⟩
                | 12, _, _ => exact .inl ⟨⟨rfl, .inl (hd 10 rfl)⟩, op_ldI rfl rfl (hd 11 rfl) ((HE.out.to hb).cell 1 1 rfl rfl)⟩
                | 13, _, _ => exact .inl ⟨⟨rfl, .inl (hd 10 rfl)⟩, pure_b (bool_eq K2.out) (⟨_, op_geqI rfl (hd 12 rfl) rfl, rfl⟩)⟩
                | 14, _, _ => exact .inl ⟨rfl, ⟨_, op_pickT rfl (hd 10 rfl) (hd 13 rfl), rfl⟩⟩
                | 15, _, _ => exact .inl ⟨rfl, op_mv rfl (hd 14 rfl)⟩
                | 16, _, _ => exact .inl ⟨⟨rfl, .inl (hd 15 rfl)⟩, ⟨_, op_faM1 rfl (hs 3 rfl), rfl⟩⟩
                | 17, _, _ => exact .inl ⟨⟨rfl, .inl (hd 15 rfl)⟩, op_ldI rfl rfl (hd 16 rfl) ((HE.out.to hb).cell 1 1 rfl rfl)⟩
                | 18, _, _ => exact .inl ⟨⟨rfl, .inl (hd 15 rfl)⟩, ⟨_, op_faZ1 rfl (hs 2 rfl), rfl⟩⟩
                | 19, _, _ => exact .inl ⟨⟨rfl, .inl (hd 15 rfl)⟩, op_ldI rfl rfl (hd 18 rfl) ((HE.out.to hb).cell 0 1 rfl rfl)⟩
                | 20, _, _ => exact .inl ⟨⟨rfl, .inl (hd 15 rfl)⟩, pure_b (bool_eq K3.out) (⟨_, op_lssI rfl (hd 17 rfl) (hd 19 rfl), rfl⟩)⟩
                | 21, _, _ => exact .inl ⟨rfl, ⟨_, op_pickT rfl (hd 15 rfl) (hd 20 rfl), rfl⟩⟩
                | 22, _, _ => exact .inl ⟨rfl, op_mv rfl (hd 21 rfl)⟩
                | 23, _, _ => exact .inl ⟨⟨rfl, .inl (hd 22 rfl)⟩, ⟨_, op_faM2 rfl (hs 3 rfl), rfl⟩⟩
                | 24, _, _ => exact .inl ⟨⟨rfl, .inl (hd 22 rfl)⟩, op_ldI rfl rfl (hd 23 rfl) ((HE.out.to hb).cell 1 2 rfl rfl)⟩
                | 25, _, _ => exact .inl ⟨⟨rfl, .inl (hd 22 rfl)⟩, pure_b (bool_eq K4.out) (⟨_, op_geqI rfl (hd 24 rfl) rfl, rfl⟩)⟩
                | 26, _, _ => exact .inl ⟨rfl, ⟨_, op_pickT rfl (hd 22 rfl) (hd 25 rfl), rfl⟩⟩
                | 27, _, _ => exact .inl ⟨rfl, op_mv rfl (hd 26 rfl)⟩
                | 28, _, _ => exact .inl ⟨⟨rfl, .inl (hd 27 rfl)⟩, ⟨_, op_faM2 rfl (hs 3 rfl), rfl⟩⟩
                | 29, _, _ => exact .inl ⟨⟨rfl, .inl (hd 27 rfl)⟩, op_ldI rfl rfl (hd 28 rfl) ((HE.out.to hb).cell 1 2 rfl rfl)⟩
                | 30, _, _ => exact .inl ⟨⟨rfl, .inl (hd 27 rfl)⟩, pure_b (bool_eq K5.out) (⟨_, op_lssI rfl (hd 29 rfl) rfl, rfl⟩)⟩
                | 31, _, _ => exact .inl ⟨rfl, ⟨_, op_pickT rfl (hd 27 rfl) (hd 30 rfl), rfl⟩⟩
                | 32, _, _ => exact .inl ⟨rfl, op_mv rfl (hd 31 rfl)⟩
                | 33, _, _ => exact .inl ⟨⟨rfl, .inl (hd 32 rfl)⟩, ⟨_, op_faM2 rfl (hs 3 rfl), rfl⟩⟩
                | 34, _, _ => exact .inl ⟨⟨rfl, .inl (hd 32 rfl)⟩, op_ldI rfl rfl (hd 33 rfl) ((HE.out.to hb).cell 1 2 rfl rfl)⟩
                | 35, _, _ => exact .inl ⟨⟨rfl, .inl (hd 32 rfl)⟩, op_run rfl (op_rem (by omega) (by unfold Fit; omega) (by omega) rfl (hd 34 rfl) rfl _) rfl⟩
                | 36, _, _ => exact .inl ⟨⟨rfl, .inl (hd 32 rfl)⟩, pure_b (bool_eq KE.out) (⟨_, op_eqlI rfl (hd 35 rfl) rfl, rfl⟩)⟩
                | 37, _, _ => exact .inl ⟨⟨rfl, .inl (hd 32 rfl)⟩, op_mv rfl (hd 36 rfl)⟩
                | 38, _, _ => exact .inl ⟨⟨rfl, .inl (hd 37 rfl)⟩, ⟨_, op_faZ0 rfl (hs 2 rfl), rfl⟩⟩
                | 39, _, _ => exact .inl ⟨⟨rfl, .inl (hd 37 rfl)⟩, op_ldI rfl rfl (hd 38 rfl) ((HE.out.to hb).cell 0 0 rfl rfl)⟩
                | 40, _, _ => exact .inl ⟨⟨rfl, .inl (hd 37 rfl)⟩, ⟨_, op_faZ1 rfl (hs 2 rfl), rfl⟩⟩
                | 41, _, _ => exact .inl ⟨⟨rfl, .inl (hd 37 rfl)⟩, op_ldI rfl rfl (hd 40 rfl) ((HE.out.to hb).cell 0 1 rfl rfl)⟩
                | 42, _, _ => exact .inl ⟨⟨rfl, .inl (hd 37 rfl)⟩, pure_b (bool_eq KQ.out) (⟨_, op_eqlI rfl (hd 39 rfl) (hd 41 rfl), rfl⟩)⟩
                | 43, _, _ => exact .inl ⟨⟨rfl, .inl (hd 32 rfl)⟩, ⟨_, op_pickF rfl (hd 37 rfl) (hd 42 rfl), rfl⟩⟩
                | 44, _, _ => exact .inl ⟨rfl, ⟨_, op_pickT rfl (hd 32 rfl) (hd 43 rfl), rfl⟩⟩
                | qi + 45, h, _ => omega
              intro vs X1 hb hv hal hne
              replace HB := Hd.mk (bel_then HB.out hb)
              replace HE := Hd.mk (HE.out.to hb)
              have e49 : vs 49 = .bool false := hv 44 (by decide) rfl
              simp only [PA, e49]
              clear hv hal hne hb e49
              go_wp2_with fail
              go_ret
              exact ⟨_, rfl, HB.out, rfl⟩
            rw [show alB Wd Ht x y t = false by unfold alB; simp [h0, h1, h2, h3, h4, h5] <;> omega]
            have K5 := Hd.mk (decide_eq_false h5)
            go_enter Try.func51, Try.ntmps51
            go_upto_region 1 with fail
            obtain ⟨W0, hW0⟩ : ∃ W : World, W = (w.alloc (.cells #[.int .i64 Wd, .int .i64 Ht] 84)).alloc (.cells #[.int .i64 x, .int .i64 y, .int .i64 t, .bool f] 31) := ⟨_, rfl⟩
            rw [← hW0]
            obtain ⟨he, hb⟩ := env_two hW0
            have HE := Hd.mk he
            have HB := Hd.mk hb
            clear he hb hW0
            refine wp_region_vd 45 [5, 6, 7, 8, 9, 10, 11, 12, 13, 14, 15, 16, 17, 18, 19, 20, 21, 22, 23, 24, 25, 26, 27, 28, 29, 30, 31, 32, 33, 34, 35, 36, 37, 38, 39, 40, 41, 42, 43, 44, 45, 46, 47, 48, 49] [0, 2, 3, 4, 6, 8, 9, 10, 11, 13, 14, 15, 16, 18, 20, 21, 22, 23, 25, 26, 27, 28, 30, 31, 32, 44] [] 84 [.int .i64 0, .int .i64 0] [isV (.pointer (some ⟨w.heap.size + 1, 0, none⟩)), isV (.int .i64 x), isV (.bool true), isV (.bool true), isV (.pointer (some ⟨w.heap.size + 1, 0, none⟩)), isV (.int .i64 x), isV (.pointer (some ⟨w.heap.size, 0, none⟩)), isV (.int .i64 Wd), isV (.bool true), isV (.bool true), isV (.bool true), isV (.pointer (some ⟨w.heap.size + 1, 1, none⟩)), isV (.int .i64 y), isV (.bool true), isV (.bool true), isV (.bool true), isV (.pointer (some ⟨w.heap.size + 1, 1, none⟩)), isV (.int .i64 y), isV (.pointer (some ⟨w.heap.size, 1, none⟩)), isV (.int .i64 Ht), isV (.bool true), isV (.bool true), isV (.bool true), isV (.pointer (some ⟨w.heap.size + 1, 2, none⟩)), isV (.int .i64 t), isV (.bool true), isV (.bool true), isV (.bool true), isV (.pointer (some ⟨w.heap.size + 1, 2, none⟩)), isV (.int .i64 t), isV (.bool false), isV (.bool false), isV (.bool false), isV undef, isV undef, isV undef, isV undef, isV undef, isV undef, isV undef, isV undef, isV undef, isV undef, isV undef, isV (.bool false)] (by rfl) alloc_Z ?_ ?_
            · intro qi qh qA aa wx hb hs hd
              match qi, qh, qA with
              | 0, _, _ => exact .inl ⟨rfl, ⟨_, op_faM0 rfl (hs 3 rfl), rfl⟩⟩
              | 1, _, _ => exact .inl ⟨rfl, op_ldI rfl rfl (hd 0 rfl) ((HE.out.to hb).cell 1 0 rfl rfl)⟩
              | 2, _, _ => exact .inl ⟨rfl, pure_b (bool_eq K0.out) (⟨_, op_geqI rfl (hd 1 rfl) rfl, rfl⟩)⟩
              | 3, _, _ => exact .inl ⟨rfl, op_mv rfl (hd 2 rfl)⟩
              | 4, _, _ => exact .inl ⟨⟨rfl, .inl (hd 3 rfl)⟩, ⟨_, op_faM0 rfl (hs 3 rfl), rfl⟩⟩
              | 5, _, _ => exact .inl ⟨⟨rfl, .inl (hd 3 rfl)⟩, op_ldI rfl rfl (hd 4 rfl) ((HE.out.to hb).cell 1 0 rfl rfl)⟩
              | 6, _, _ => exact .inl ⟨⟨rfl, .inl (hd 3 rfl)⟩, ⟨_, op_faZ0 rfl (hs 2 rfl), rfl⟩⟩
              | 7, _, _ => exact .inl ⟨⟨rfl, .inl (hd 3 rfl)⟩, op_ldI rfl rfl (hd 6 rfl) ((HE.out.to hb).cell 0 0 rfl rfl)⟩
              | 8, _, _ => exact .inl ⟨⟨rfl, .inl (hd 3 rfl)⟩, pure_b (bool_eq K1.out) (⟨_, op_lssI rfl (hd 5 rfl) (hd 7 rfl), rfl⟩)⟩
              | 9, _, _ => exact .inl ⟨rfl, ⟨_, op_pickT rfl (hd 3 rfl) (hd 8 rfl), rfl⟩⟩
              | 10, _, _ => exact .inl ⟨rfl, op_mv rfl (hd 9 rfl)⟩
              | 11, _, _ => exact .inl ⟨⟨rfl, .inl (hd 10 rfl)⟩, ⟨_, op_faM1 rfl (hs 3 rfl), rfl⟩⟩
              | 12, _, _ => exact .inl ⟨⟨rfl, .inl (hd 10 rfl)⟩, op_ldI rfl rfl (hd 11 rfl) ((HE.out.to hb).cell 1 1 rfl rfl)⟩
              | 13, _, _ => exact .inl ⟨⟨rfl, .inl (hd 10 rfl)⟩, pure_b (bool_eq K2.out) (⟨_, op_geqI rfl (hd 12 rfl) rfl, rfl⟩)⟩
              | 14, _, _ => exact .inl ⟨rfl, ⟨_, op_pickT rfl (hd 10 rfl) (hd 13 rfl), rfl⟩⟩
              | 15, _, _ => exact .inl ⟨rfl, op_mv rfl (hd 14 rfl)⟩
              | 16, _, _ => exact .inl ⟨⟨rfl, .inl (hd 15 rfl)⟩, ⟨_, op_faM1 rfl (hs 3 rfl), rfl⟩⟩
              | 17, _, _ => exact .inl ⟨⟨rfl, .inl (hd 15 rfl)⟩, op_ldI rfl rfl (hd 16 rfl) ((HE.out.to hb).cell 1 1 rfl rfl)⟩
              | 18, _, _ => exact .inl ⟨⟨rfl, .inl (hd 15 rfl)⟩, ⟨_, op_faZ1 rfl (hs 2 rfl), rfl⟩⟩
              | 19, _, _ => exact .inl ⟨⟨rfl, .inl (hd 15 rfl)⟩, op_ldI rfl rfl (hd 18 rfl) ((HE.out.to hb).cell 0 1 rfl rfl)⟩
              | 20, _, _ => exact .inl ⟨⟨rfl, .inl (hd 15 rfl)⟩, pure_b (bool_eq K3.out) (⟨_, op_lssI rfl (hd 17 rfl) (hd 19 rfl), rfl⟩)⟩
              | 21, _, _ => exact .inl ⟨rfl, ⟨_, op_pickT rfl (hd 15 rfl) (hd 20 rfl), rfl⟩⟩
              | 22, _, _ => exact .inl ⟨rfl, op_mv rfl (hd 21 rfl)⟩
              | 23, _, _ => exact .inl ⟨⟨rfl, .inl (hd 22 rfl)⟩, ⟨_, op_faM2 rfl (hs 3 rfl), rfl⟩⟩
              | 24, _, _ => exact .inl ⟨⟨rfl, .inl (hd 22 rfl)⟩, op_ldI rfl rfl (hd 23 rfl) ((HE.out.to hb).cell 1 2 rfl rfl)⟩
              | 25, _, _ => exact .inl ⟨⟨rfl, .inl (hd 22 rfl)⟩, pure_b (bool_eq K4.out) (⟨_, op_geqI rfl (hd 24 rfl) rfl, rfl⟩)⟩
              | 26, _, _ => exact .inl ⟨rfl, ⟨_, op_pickT rfl (hd 22 rfl) (hd 25 rfl), rfl⟩⟩
              | 27, _, _ => exact .inl ⟨rfl, op_mv rfl (hd 26 rfl)⟩
              | 28, _, _ => exact .inl ⟨⟨rfl, .inl (hd 27 rfl)⟩, ⟨_, op_faM2 rfl (hs 3 rfl), rfl⟩⟩
              | 29, _, _ => exact .inl ⟨⟨rfl, .inl (hd 27 rfl)⟩, op_ldI rfl rfl (hd 28 rfl) ((HE.out.to hb).cell 1 2 rfl rfl)⟩
              | 30, _, _ => exact .inl ⟨⟨rfl, .inl (hd 27 rfl)⟩, pure_b (bool_eq K5.out) (⟨_, op_lssI rfl (hd 29 rfl) rfl, rfl⟩)⟩
              | 31, _, _ => exact .inl ⟨rfl, ⟨_, op_pickT rfl (hd 27 rfl) (hd 30 rfl), rfl⟩⟩
              | 32, _, _ => exact .inl ⟨rfl, op_mv rfl (hd 31 rfl)⟩
              | 33, _, _ => exact .inr ⟨⟨rfl, .inl (hd 32 rfl)⟩, rfl⟩
              | 34, _, _ => exact .inr ⟨⟨rfl, .inl (hd 32 rfl)⟩, rfl⟩
              | 35, _, _ => exact .inr ⟨⟨rfl, .inl (hd 32 rfl)⟩, rfl⟩
              | 36, _, _ => exact .inr ⟨⟨rfl, .inl (hd 32 rfl)⟩, rfl⟩
              | 37, _, _ => exact .inr ⟨⟨rfl, .inl (hd 32 rfl)⟩, rfl⟩
              | 38, _, _ => exact .inr ⟨⟨rfl, .inr ⟨rfl, hd 37 rfl⟩⟩, rfl⟩
              | 39, _, _ => exact .inr ⟨⟨rfl, .inr ⟨rfl, hd 37 rfl⟩⟩, rfl⟩
              | 40, _, _ => exact .inr ⟨⟨rfl, .inr ⟨rfl, hd 37 rfl⟩⟩, rfl⟩
              | 41, _, _ => exact .inr ⟨⟨rfl, .inr ⟨rfl, hd 37 rfl⟩⟩, rfl⟩
              | 42, _, _ => exact .inr ⟨⟨rfl, .inr ⟨rfl, hd 37 rfl⟩⟩, rfl⟩
              | 43, _, _ => exact .inr ⟨⟨rfl, .inl (hd 32 rfl)⟩, rfl⟩
              | 44, _, _ => exact .inl ⟨rfl, ⟨_, op_pickF rfl (hd 32 rfl) rfl, rfl⟩⟩
              | qi + 45, h, _ => omega
            intro vs X1 hb hv hal hne
            replace HB := Hd.mk (bel_then HB.out hb)
            replace HE := Hd.mk (HE.out.to hb)
            have e49 : vs 49 = .bool false := hv 44 (by decide) rfl
            simp only [PA, e49]
            clear hv hal hne hb e49
            go_wp2_with fail
            go_ret
            exact ⟨_, rfl, HB.out, rfl⟩
          rw [show alB Wd Ht x y t = false by unfold alB; simp [h0, h1, h2, h3, h4] <;> omega]
          have K4 := Hd.mk (decide_eq_false h4)
          go_enter Try.func51, Try.ntmps51
          go_upto_region 1 with fail
          obtain ⟨W0, hW0⟩ : ∃ W : World, W = (w.alloc (.cells #[.int .i64 Wd, .int .i64 Ht] 84)).alloc (.cells #[.int .i64 x, .int .i64 y, .int .i64 t, .bool f] 31) := ⟨_, rfl⟩
          rw [← hW0]
          obtain ⟨he, hb⟩ := env_two hW0
          have HE := Hd.mk he
          have HB := Hd.mk hb
          clear he hb hW0
          refine wp_region_vd 45 [5, 6, 7, 8, 9, 10, 11, 12, 13, 14, 15, 16, 17, 18, 19, 20, 21, 22, 23, 24, 25, 26, 27, 28, 29, 30, 31, 32, 33, 34, 35, 36, 37, 38, 39, 40, 41, 42, 43, 44, 45, 46, 47, 48, 49] [0, 2, 3, 4, 6, 8, 9, 10, 11, 13, 14, 15, 16, 18, 20, 21, 22, 23, 25, 26, 27, 31, 32, 44] [] 84 [.int .i64 0, .int .i64 0] [isV (.pointer (some ⟨w.heap.size + 1, 0, none⟩)), isV (.int .i64 x), isV (.bool true), isV (.bool true), isV (.pointer (some ⟨w.heap.size + 1, 0, none⟩)), isV (.int .i64 x), isV (.pointer (some ⟨w.heap.size, 0, none⟩)), isV (.int .i64 Wd), isV (.bool true), isV (.bool true), isV (.bool true), isV (.pointer (some ⟨w.heap.size + 1, 1, none⟩)), isV (.int .i64 y), isV (.bool true), isV (.bool true), isV (.bool true), isV (.pointer (some ⟨w.heap.size + 1, 1, none⟩)), isV (.int .i64 y), isV (.pointer (some ⟨w.heap.size, 1, none⟩)), isV (.int .i64 Ht), isV (.bool true), isV (.bool true), isV (.bool true), isV (.pointer (some ⟨w.heap.size + 1, 2, none⟩)), isV (.int .i64 t), isV (.bool false), isV (.bool false), isV (.bool false), isV undef, isV undef, isV undef, isV (.bool false), isV (.bool false), isV undef, isV undef, isV undef, isV undef, isV undef, isV undef, isV undef, isV undef, isV undef, isV undef, isV undef, isV (.bool false)] (by rfl) alloc_Z ?_ ?_
          · intro qi qh qA aa wx hb hs hd
            match qi, qh, qA with
            | 0, _, _ => exact .inl ⟨rfl, ⟨_, op_faM0 rfl (hs 3 rfl), rfl⟩⟩
            | 1, _, _ => exact .inl ⟨rfl, op_ldI rfl rfl (hd 0 rfl) ((HE.out.to hb).cell 1 0 rfl rfl)⟩
            | 2, _, _ => exact .inl ⟨rfl, pure_b (bool_eq K0.out) (⟨_, op_geqI rfl (hd 1 rfl) rfl, rfl⟩)⟩
            | 3, _, _ => exact .inl ⟨rfl, op_mv rfl (hd 2 rfl)⟩
            | 4, _, _ => exact .inl ⟨⟨rfl, .inl (hd 3 rfl)⟩, ⟨_, op_faM0 rfl (hs 3 rfl), rfl⟩⟩
            | 5, _, _ => exact .inl ⟨⟨rfl, .inl (hd 3 rfl)⟩, op_ldI rfl rfl (hd 4 rfl) ((HE.out.to hb).cell 1 0 rfl rfl)⟩
            | 6, _, _ => exact .inl ⟨⟨rfl, .inl (hd 3 rfl)⟩, ⟨_, op_faZ0 rfl (hs 2 rfl), rfl⟩⟩
            | 7, _, _ => exact .inl ⟨⟨rfl, .inl (hd 3 rfl)⟩, op_ldI rfl rfl (hd 6 rfl) ((HE.out.to hb).cell 0 0 rfl rfl)⟩
            | 8, _, _ => exact .inl ⟨⟨rfl, .inl (hd 3 rfl)⟩, pure_b (bool_eq K1.out) (⟨_, op_lssI rfl (hd 5 rfl) (hd 7 rfl), rfl⟩)⟩
            | 9, _, _ => exact .inl ⟨rfl, ⟨_, op_pickT rfl (hd 3 rfl) (hd 8 rfl), rfl⟩⟩
            | 10, _, _ => exact .inl ⟨rfl, op_mv rfl (hd 9 rfl)⟩
            | 11, _, _ => exact .inl ⟨⟨rfl, .inl (hd 10 rfl)⟩, ⟨_, op_faM1 rfl (hs 3 rfl), rfl⟩⟩
            | 12, _, _ => exact .inl ⟨⟨rfl, .inl (hd 10 rfl)⟩, op_ldI rfl rfl (hd 11 rfl) ((HE.out.to hb).cell 1 1 rfl rfl)⟩
            | 13, _, _ => exact .inl ⟨⟨rfl, .inl (hd 10 rfl)⟩, pure_b (bool_eq K2.out) (⟨_, op_geqI rfl (hd 12 rfl) rfl, rfl⟩)⟩
            | 14, _, _ => exact .inl ⟨rfl, ⟨_, op_pickT rfl (hd 10 rfl) (hd 13 rfl), rfl⟩⟩
            | 15, _, _ => exact .inl ⟨rfl, op_mv rfl (hd 14 rfl)⟩
            | 16, _, _ => exact .inl ⟨⟨rfl, .inl (hd 15 rfl)⟩, ⟨_, op_faM1 rfl (hs 3 rfl), rfl⟩⟩
            | 17, _, _ => exact .inl ⟨⟨rfl, .inl (hd 15 rfl)⟩, op_ldI rfl rfl (hd 16 rfl) ((HE.out.to hb).cell 1 1 rfl rfl)⟩
            | 18, _, _ => exact .inl ⟨⟨rfl, .inl (hd 15 rfl)⟩, ⟨_, op_faZ1 rfl (hs 2 rfl), rfl⟩⟩
            | 19, _, _ => exact .inl ⟨⟨rfl, .inl (hd 15 rfl)⟩, op_ldI rfl rfl (hd 18 rfl) ((HE.out.to hb).cell 0 1 rfl rfl)⟩
            | 20, _, _ => exact .inl ⟨⟨rfl, .inl (hd 15 rfl)⟩, pure_b (bool_eq K3.out) (⟨_, op_lssI rfl (hd 17 rfl) (hd 19 rfl), rfl⟩)⟩
            | 21, _, _ => exact .inl ⟨rfl, ⟨_, op_pickT rfl (hd 15 rfl) (hd 20 rfl), rfl⟩⟩
            | 22, _, _ => exact .inl ⟨rfl, op_mv rfl (hd 21 rfl)⟩
            | 23, _, _ => exact .inl ⟨⟨rfl, .inl (hd 22 rfl)⟩, ⟨_, op_faM2 rfl (hs 3 rfl), rfl⟩⟩
            | 24, _, _ => exact .inl ⟨⟨rfl, .inl (hd 22 rfl)⟩, op_ldI rfl rfl (hd 23 rfl) ((HE.out.to hb).cell 1 2 rfl rfl)⟩
            | 25, _, _ => exact .inl ⟨⟨rfl, .inl (hd 22 rfl)⟩, pure_b (bool_eq K4.out) (⟨_, op_geqI rfl (hd 24 rfl) rfl, rfl⟩)⟩
            | 26, _, _ => exact .inl ⟨rfl, ⟨_, op_pickT rfl (hd 22 rfl) (hd 25 rfl), rfl⟩⟩
            | 27, _, _ => exact .inl ⟨rfl, op_mv rfl (hd 26 rfl)⟩
            | 28, _, _ => exact .inr ⟨⟨rfl, .inl (hd 27 rfl)⟩, rfl⟩
            | 29, _, _ => exact .inr ⟨⟨rfl, .inl (hd 27 rfl)⟩, rfl⟩
            | 30, _, _ => exact .inr ⟨⟨rfl, .inl (hd 27 rfl)⟩, rfl⟩
            | 31, _, _ => exact .inl ⟨rfl, ⟨_, op_pickF rfl (hd 27 rfl) rfl, rfl⟩⟩
            | 32, _, _ => exact .inl ⟨rfl, op_mv rfl (hd 31 rfl)⟩
            | 33, _, _ => exact .inr ⟨⟨rfl, .inl (hd 32 rfl)⟩, rfl⟩
            | 34, _, _ => exact .inr ⟨⟨rfl, .inl (hd 32 rfl)⟩, rfl⟩
            | 35, _, _ => exact .inr ⟨⟨rfl, .inl (hd 32 rfl)⟩, rfl⟩
            | 36, _, _ => exact .inr ⟨⟨rfl, .inl (hd 32 rfl)⟩, rfl⟩
            | 37, _, _ => exact .inr ⟨⟨rfl, .inl (hd 32 rfl)⟩, rfl⟩
            | 38, _, _ => exact .inr ⟨⟨rfl, .inr ⟨rfl, hd 37 rfl⟩⟩, rfl⟩
            | 39, _, _ => exact .inr ⟨⟨rfl, .inr ⟨rfl, hd 37 rfl⟩⟩, rfl⟩
            | 40, _, _ => exact .inr ⟨⟨rfl, .inr ⟨rfl, hd 37 rfl⟩⟩, rfl⟩
            | 41, _, _ => exact .inr ⟨⟨rfl, .inr ⟨rfl, hd 37 rfl⟩⟩, rfl⟩
            | 42, _, _ => exact .inr ⟨⟨rfl, .inr ⟨rfl, hd 37 rfl⟩⟩, rfl⟩
            | 43, _, _ => exact .inr ⟨⟨rfl, .inl (hd 32 rfl)⟩, rfl⟩
            | 44, _, _ => exact .inl ⟨rfl, ⟨_, op_pickF rfl (hd 32 rfl) rfl, rfl⟩⟩
            | qi + 45, h, _ => omega
          intro vs X1 hb hv hal hne
          replace HB := Hd.mk (bel_then HB.out hb)
          replace HE := Hd.mk (HE.out.to hb)
          have e49 : vs 49 = .bool false := hv 44 (by decide) rfl
          simp only [PA, e49]
          clear hv hal hne hb e49
          go_wp2_with fail
          go_ret
          exact ⟨_, rfl, HB.out, rfl⟩
        rw [show alB Wd Ht x y t = false by unfold alB; simp [h0, h1, h2, h3] <;> omega]
        have K3 := Hd.mk (decide_eq_false h3)
        go_enter Try.func51, Try.ntmps51
        go_upto_region 1 with fail
        obtain ⟨W0, hW0⟩ : ∃ W : World, W = (w.alloc (.cells #[.int .i64 Wd, .int .i64 Ht] 84)).alloc (.cells #[.int .i64 x, .int .i64 y, .int .i64 t, .bool f] 31) := ⟨_, rfl⟩
        rw [← hW0]
        obtain ⟨he, hb⟩ := env_two hW0
        have HE := Hd.mk he
        have HB := Hd.mk hb
        clear he hb hW0
        refine wp_region_vd 45 [5, 6, 7, 8, 9, 10, 11, 12, 13, 14, 15, 16, 17, 18, 19, 20, 21, 22, 23, 24, 25, 26, 27, 28, 29, 30, 31, 32, 33, 34, 35, 36, 37, 38, 39, 40, 41, 42, 43, 44, 45, 46, 47, 48, 49] [0, 2, 3, 4, 6, 8, 9, 10, 11, 13, 14, 15, 16, 18, 20, 21, 22, 26, 27, 31, 32, 44] [] 84 [.int .i64 0, .int .i64 0] [isV (.pointer (some ⟨w.heap.size + 1, 0, none⟩)), isV (.int .i64 x), isV (.bool true), isV (.bool true), isV (.pointer (some ⟨w.heap.size + 1, 0, none⟩)), isV (.int .i64 x), isV (.pointer (some ⟨w.heap.size, 0, none⟩)), isV (.int .i64 Wd), isV (.bool true), isV (.bool true), isV (.bool true), isV (.pointer (some ⟨w.heap.size + 1, 1, none⟩)), isV (.int .i64 y), isV (.bool true), isV (.bool true), isV (.bool true), isV (.pointer (some ⟨w.heap.size + 1, 1, none⟩)), isV (.int .i64 y), isV (.pointer (some ⟨w.heap.size, 1, none⟩)), isV (.int .i64 Ht), isV (.bool false), isV (.bool false), isV (.bool false), isV undef, isV undef, isV undef, isV (.bool false), isV (.bool false), isV undef, isV undef, isV undef, isV (.bool false), isV (.bool false), isV undef, isV undef, isV undef, isV undef, isV undef, isV undef, isV undef, isV undef, isV undef, isV undef, isV undef, isV (.bool false)] (by rfl) alloc_Z ?_ ?_
        · intro qi qh qA aa wx hb hs hd
          match qi, qh, qA with
          | 0, _, _ => exact .inl ⟨rfl, ⟨_, op_faM0 rfl (hs 3 rfl), rfl⟩⟩
          | 1, _, _ => exact .inl ⟨rfl, op_ldI rfl rfl (hd 0 rfl) ((HE.out.to hb).cell 1 0 rfl rfl)⟩
          | 2, _, _ => exact .inl ⟨rfl, pure_b (bool_eq K0.out) (⟨_, op_geqI rfl (hd 1 rfl) rfl, rfl⟩)⟩
          | 3, _, _ => exact .inl ⟨rfl, op_mv rfl (hd 2 rfl)⟩
          | 4, _, _ => exact .inl ⟨⟨rfl, .inl (hd 3 rfl)⟩, ⟨_, op_faM0 rfl (hs 3 rfl), rfl⟩⟩
          | 5, _, _ => exact .inl ⟨⟨rfl, .inl (hd 3 rfl)⟩, op_ldI rfl rfl (hd 4 rfl) ((HE.out.to hb).cell 1 0 rfl rfl)⟩
          | 6, _, _ => exact .inl ⟨⟨rfl, .inl (hd 3 rfl)⟩, ⟨_, op_faZ0 rfl (hs 2 rfl), rfl⟩⟩
          | 7, _, _ => exact .inl ⟨⟨rfl, .inl (hd 3 rfl)⟩, op_ldI rfl rfl (hd 6 rfl) ((HE.out.to hb).cell 0 0 rfl rfl)⟩
          | 8, _, _ => exact .inl ⟨⟨rfl, .inl (hd 3 rfl)⟩, pure_b (bool_eq K1.out) (⟨_, op_lssI rfl (hd 5 rfl) (hd 7 rfl), rfl⟩)⟩
          | 9, _, _ => exact .inl ⟨rfl, ⟨_, op_pickT rfl (hd 3 rfl) (hd 8 rfl), rfl⟩⟩
          | 10, _, _ => exact .inl ⟨rfl, op_mv rfl (hd 9 rfl)⟩
          | 11, _, _ => exact .inl ⟨⟨rfl, .inl (hd 10 rfl)⟩, ⟨_, op_faM1 rfl (hs 3 rfl), rfl⟩⟩
          | 12, _, _ => exact .inl ⟨⟨rfl, .inl (hd 10 rfl)⟩, op_ldI rfl rfl (hd 11 rfl) ((HE.out.to hb).cell 1 1 rfl rfl)⟩
          | 13, _, _ => exact .inl ⟨⟨rfl, .inl (hd 10 rfl)⟩, pure_b (bool_eq K2.out) (⟨_, op_geqI rfl (hd 12 rfl) rfl, rfl⟩)⟩
          | 14, _, _ => exact .inl ⟨rfl, ⟨_, op_pickT rfl (hd 10 rfl) (hd 13 rfl), rfl⟩⟩
          | 15, _, _ => exact .inl ⟨rfl, op_mv rfl (hd 14 rfl)⟩
          | 16, _, _ => exact .inl ⟨⟨rfl, .inl (hd 15 rfl)⟩, ⟨_, op_faM1 rfl (hs 3 rfl), rfl⟩⟩
          | 17, _, _ => exact .inl ⟨⟨rfl, .inl (hd 15 rfl)⟩, op_ldI rfl rfl (hd 16 rfl) ((HE.out.to hb).cell 1 1 rfl rfl)⟩
          | 18, _, _ => exact .inl ⟨⟨rfl, .inl (hd 15 rfl)⟩, ⟨_, op_faZ1 rfl (hs 2 rfl), rfl⟩⟩
          | 19, _, _ => exact .inl ⟨⟨rfl, .inl (hd 15 rfl)⟩, op_ldI rfl rfl (hd 18 rfl) ((HE.out.to hb).cell 0 1 rfl rfl)⟩
          | 20, _, _ => exact .inl ⟨⟨rfl, .inl (hd 15 rfl)⟩, pure_b (bool_eq K3.out) (⟨_, op_lssI rfl (hd 17 rfl) (hd 19 rfl), rfl⟩)⟩
          | 21, _, _ => exact .inl ⟨rfl, ⟨_, op_pickT rfl (hd 15 rfl) (hd 20 rfl), rfl⟩⟩
          | 22, _, _ => exact .inl ⟨rfl, op_mv rfl (hd 21 rfl)⟩
          | 23, _, _ => exact .inr ⟨⟨rfl, .inl (hd 22 rfl)⟩, rfl⟩
          | 24, _, _ => exact .inr ⟨⟨rfl, .inl (hd 22 rfl)⟩, rfl⟩
          | 25, _, _ => exact .inr ⟨⟨rfl, .inl (hd 22 rfl)⟩, rfl⟩
          | 26, _, _ => exact .inl ⟨rfl, ⟨_, op_pickF rfl (hd 22 rfl) rfl, rfl⟩⟩
          | 27, _, _ => exact .inl ⟨rfl, op_mv rfl (hd 26 rfl)⟩
          | 28, _, _ => exact .inr ⟨⟨rfl, .inl (hd 27 rfl)⟩, rfl⟩
          | 29, _, _ => exact .inr ⟨⟨rfl, .inl (hd 27 rfl)⟩, rfl⟩
          | 30, _, _ => exact .inr ⟨⟨rfl, .inl (hd 27 rfl)⟩, rfl⟩
          | 31, _, _ => exact .inl ⟨rfl, ⟨_, op_pickF rfl (hd 27 rfl) rfl, rfl⟩⟩
          | 32, _, _ => exact .inl ⟨rfl, op_mv rfl (hd 31 rfl)⟩
          | 33, _, _ => exact .inr ⟨⟨rfl, .inl (hd 32 rfl)⟩, rfl⟩
          | 34, _, _ => exact .inr ⟨⟨rfl, .inl (hd 32 rfl)⟩, rfl⟩
          | 35, _, _ => exact .inr ⟨⟨rfl, .inl (hd 32 rfl)⟩, rfl⟩
          | 36, _, _ => exact .inr ⟨⟨rfl, .inl (hd 32 rfl)⟩, rfl⟩
          | 37, _, _ => exact .inr ⟨⟨rfl, .inl (hd 32 rfl)⟩, rfl⟩
          | 38, _, _ => exact .inr ⟨⟨rfl, .inr ⟨rfl, hd 37 rfl⟩⟩, rfl⟩
          | 39, _, _ => exact .inr ⟨⟨rfl, .inr ⟨rfl, hd 37 rfl⟩⟩, rfl⟩
          | 40, _, _ => exact .inr ⟨⟨rfl, .inr ⟨rfl, hd 37 rfl⟩⟩, rfl⟩
          | 41, _, _ => exact .inr ⟨⟨rfl, .inr ⟨rfl, hd 37 rfl⟩⟩, rfl⟩
          | 42, _, _ => exact .inr ⟨⟨rfl, .inr ⟨rfl, hd 37 rfl⟩⟩, rfl⟩
          | 43, _, _ => exact .inr ⟨⟨rfl, .inl (hd 32 rfl)⟩, rfl⟩
          | 44, _, _ => exact .inl ⟨rfl, ⟨_, op_pickF rfl (hd 32 rfl) rfl, rfl⟩⟩
          | qi + 45, h, _ => omega
        intro vs X1 hb hv hal hne
        replace HB := Hd.mk (bel_then HB.out hb)
        replace HE := Hd.mk (HE.out.to hb)
        have e49 : vs 49 = .bool false := hv 44 (by decide) rfl
        simp only [PA, e49]
        clear hv hal hne hb e49
        go_wp2_with fail
        go_ret
        exact ⟨_, rfl, HB.out, rfl⟩
      rw [show alB Wd Ht x y t = false by unfold alB; simp [h0, h1, h2] <;> omega]
      have K2 := Hd.mk (decide_eq_false h2)
      go_enter Try.func51, Try.ntmps51
      go_upto_region 1 with fail
      obtain ⟨W0, hW0⟩ : ∃ W : World, W = (w.alloc (.cells #[.int .i64 Wd, .int .i64 Ht] 84)).alloc (.cells #[.int .i64 x, .int .i64 y, .int .i64 t, .bool f] 31) := ⟨_, rfl⟩
      rw [← hW0]
      obtain ⟨he, hb⟩ := env_two hW0
      have HE := Hd.mk he
      have HB := Hd.mk hb
      clear he hb hW0
      refine wp_region_vd 45 [5, 6, 7, 8, 9, 10, 11, 12, 13, 14, 15, 16, 17, 18, 19, 20, 21, 22, 23, 24, 25, 26, 27, 28, 29, 30, 31, 32, 33, 34, 35, 36, 37, 38, 39, 40, 41, 42, 43, 44, 45, 46, 47, 48, 49] [0, 2, 3, 4, 6, 8, 9, 10, 11, 13, 14, 15, 21, 22, 26, 27, 31, 32, 44] [] 84 [.int .i64 0, .int .i64 0] [isV (.pointer (some ⟨w.heap.size + 1, 0, none⟩)), isV (.int .i64 x), isV (.bool true), isV (.bool true), isV (.pointer (some ⟨w.heap.size + 1, 0, none⟩)), isV (.int .i64 x), isV (.pointer (some ⟨w.heap.size, 0, none⟩)), isV (.int .i64 Wd), isV (.bool true), isV (.bool true), isV (.bool true), isV (.pointer (some ⟨w.heap.size + 1, 1, none⟩)), isV (.int .i64 y), isV (.bool false), isV (.bool false), isV (.bool false), isV undef, isV undef, isV undef, isV undef, isV undef, isV (.bool false), isV (.bool false), isV undef, isV undef, isV undef, isV (.bool false), isV (.bool false), isV undef, isV undef, isV undef, isV (.bool false), isV (.bool false), isV undef, isV undef, isV undef, isV undef, isV undef, isV undef, isV undef, isV undef, isV undef, isV undef, isV undef, isV (.bool false)] (by rfl) alloc_Z ?_ ?_
      · intro qi qh qA aa wx hb hs hd
        match qi, qh, qA with
        | 0, _, _ => exact .inl ⟨rfl, ⟨_, op_faM0 rfl (hs 3 rfl), rfl⟩⟩
        | 1, _, _ => exact .inl ⟨rfl, op_ldI rfl rfl (hd 0 rfl) ((HE.out.to hb).cell 1 0 rfl rfl)⟩
        | 2, _, _ => exact .inl ⟨rfl, pure_b (bool_eq K0.out) (⟨_, op_geqI rfl (hd 1 rfl) rfl, rfl⟩)⟩
        | 3, _, _ => exact .inl ⟨rfl, op_mv rfl (hd 2 rfl)⟩
        | 4, _, _ => exact .inl ⟨⟨rfl, .inl (hd 3 rfl)⟩, ⟨_, op_faM0 rfl (hs 3 rfl), rfl⟩⟩
        | 5, _, _ => exact .inl ⟨⟨rfl, .inl (hd 3 rfl)⟩, op_ldI rfl rfl (hd 4 rfl) ((HE.out.to hb).cell 1 0 rfl rfl)⟩
        | 6, _, _ => exact .inl ⟨⟨rfl, .inl (hd 3 rfl)⟩, ⟨_, op_faZ0 rfl (hs 2 rfl), rfl⟩⟩
        | 7, _, _ => exact .inl ⟨⟨rfl, .inl (hd 3 rfl)⟩, op_ldI rfl rfl (hd 6 rfl) ((HE.out.to hb).cell 0 0 rfl rfl)⟩
        | 8, _, _ => exact .inl ⟨⟨rfl, .inl (hd 3 rfl)⟩, pure_b (bool_eq K1.out) (⟨_, op_lssI rfl (hd 5 rfl) (hd 7 rfl), rfl⟩)⟩
        | 9, _, _ => exact .inl ⟨rfl, ⟨_, op_pickT rfl (hd 3 rfl) (hd 8 rfl), rfl⟩⟩
        | 10, _, _ => exact .inl ⟨rfl, op_mv rfl (hd 9 rfl)⟩
        | 11, _, _ => exact .inl ⟨⟨rfl, .inl (hd 10 rfl)⟩, ⟨_, op_faM1 rfl (hs 3 rfl), rfl⟩⟩
        | 12, _, _ => exact .inl ⟨⟨rfl, .inl (hd 10 rfl)⟩, op_ldI rfl rfl (hd 11 rfl) ((HE.out.to hb).cell 1 1 rfl rfl)⟩
        | 13, _, _ => exact .inl ⟨⟨rfl, .inl (hd 10 rfl)⟩, pure_b (bool_eq K2.out) (⟨_, op_geqI rfl (hd 12 rfl) rfl, rfl⟩)⟩
        | 14, _, _ => exact .inl ⟨rfl, ⟨_, op_pickT rfl (hd 10 rfl) (hd 13 rfl), rfl⟩⟩
        | 15, _, _ => exact .inl ⟨rfl, op_mv rfl (hd 14 rfl)⟩
        | 16, _, _ => exact .inr ⟨⟨rfl, .inl (hd 15 rfl)⟩, rfl⟩
        | 17, _, _ => exact .inr ⟨⟨rfl, .inl (hd 15 rfl)⟩, rfl⟩
        | 18, _, _ => exact .inr ⟨⟨rfl, .inl (hd 15 rfl)⟩, rfl⟩
        | 19, _, _ => exact .inr ⟨⟨rfl, .inl (hd 15 rfl)⟩, rfl⟩
        | 20, _, _ => exact .inr ⟨⟨rfl, .inl (hd 15 rfl)⟩, rfl⟩
        | 21, _, _ => exact .inl ⟨rfl, ⟨_, op_pickF rfl (hd 15 rfl) rfl, rfl⟩⟩
        | 22, _, _ => exact .inl ⟨rfl, op_mv rfl (hd 21 rfl)⟩
        | 23, _, _ => exact .inr ⟨⟨rfl, .inl (hd 22 rfl)⟩, rfl⟩
        | 24, _, _ => exact .inr ⟨⟨rfl, .inl (hd 22 rfl)⟩, rfl⟩
        | 25, _, _ => exact .inr ⟨⟨rfl, .inl (hd 22 rfl)⟩, rfl⟩
        | 26, _, _ => exact .inl ⟨rfl, ⟨_, op_pickF rfl (hd 22 rfl) rfl, rfl⟩⟩
        | 27, _, _ => exact .inl ⟨rfl, op_mv rfl (hd 26 rfl)⟩
        | 28, _, _ => exact .inr ⟨⟨rfl, .inl (hd 27 rfl)⟩, rfl⟩
        | 29, _, _ => exact .inr ⟨⟨rfl, .inl (hd 27 rfl)⟩, rfl⟩
        | 30, _, _ => exact .inr ⟨⟨rfl, .inl (hd 27 rfl)⟩, rfl⟩
        | 31, _, _ => exact .inl ⟨rfl, ⟨_, op_pickF rfl (hd 27 rfl) rfl, rfl⟩⟩
        | 32, _, _ => exact .inl ⟨rfl, op_mv rfl (hd 31 rfl)⟩
        | 33, _, _ => exact .inr ⟨⟨rfl, .inl (hd 32 rfl)⟩, rfl⟩
        | 34, _, _ => exact .inr ⟨⟨rfl, .inl (hd 32 rfl)⟩, rfl⟩
        | 35, _, _ => exact .inr ⟨⟨rfl, .inl (hd 32 rfl)⟩, rfl⟩
        | 36, _, _ => exact .inr ⟨⟨rfl, .inl (hd 32 rfl)⟩, rfl⟩
        | 37, _, _ => exact .inr ⟨⟨rfl, .inl (hd 32 rfl)⟩, rfl⟩
        | 38, _, _ => exact .inr ⟨⟨rfl, .inr ⟨rfl, hd 37 rfl⟩⟩, rfl⟩
        | 39, _, _ => exact .inr ⟨⟨rfl, .inr ⟨rfl, hd 37 rfl⟩⟩, rfl⟩
        | 40, _, _ => exact .inr ⟨⟨rfl, .inr ⟨rfl, hd 37 rfl⟩⟩, rfl⟩
        | 41, _, _ => exact .inr ⟨⟨rfl, .inr ⟨rfl, hd 37 rfl⟩⟩, rfl⟩
        | 42, _, _ => exact .inr ⟨⟨rfl, .inr ⟨rfl, hd 37 rfl⟩⟩, rfl⟩
        | 43, _, _ => exact .inr ⟨⟨rfl, .inl (hd 32 rfl)⟩, rfl⟩
        | 44, _, _ => exact .inl ⟨rfl, ⟨_, op_pickF rfl (hd 32 rfl) rfl, rfl⟩⟩
        | qi + 45, h, _ => omega
      intro vs X1 hb hv hal hne
      replace HB := Hd.mk (bel_then HB.out hb)
      replace HE := Hd.mk (HE.out.to hb)
      have e49 : vs 49 = .bool false := hv 44 (by decide) rfl
      simp only [PA, e49]
      clear hv hal hne hb e49
      go_wp2_with fail
      go_ret
      exact ⟨_, rfl, HB.out, rfl⟩
    rw [show alB Wd Ht x y t = false by unfold alB; simp [h0, h1] <;> omega]
    have K1 := Hd.mk (decide_eq_false h1)
    go_enter Try.func51, Try.ntmps51
    go_upto_region 1 with fail
    obtain ⟨W0, hW0⟩ : ∃ W : World, W = (w.alloc (.cells #[.int .i64 Wd, .int .i64 Ht] 84)).alloc (.cells #[.int .i64 x, .int .i64 y, .int .i64 t, .bool f] 31) := ⟨_, rfl⟩
    rw [← hW0]
    obtain ⟨he, hb⟩ := env_two hW0
    have HE := Hd.mk he
    have HB := Hd.mk hb
    clear he hb hW0
    refine wp_region_vd 45 [5, 6, 7, 8, 9, 10, 11, 12, 13, 14, 15, 16, 17, 18, 19, 20, 21, 22, 23, 24, 25, 26, 27, 28, 29, 30, 31, 32, 33, 34, 35, 36, 37, 38, 39, 40, 41, 42, 43, 44, 45, 46, 47, 48, 49] [0, 2, 3, 4, 6, 8, 9, 10, 14, 15, 21, 22, 26, 27, 31, 32, 44] [] 84 [.int .i64 0, .int .i64 0] [isV (.pointer (some ⟨w.heap.size + 1, 0, none⟩)), isV (.int .i64 x), isV (.bool true), isV (.bool true), isV (.pointer (some ⟨w.heap.size + 1, 0, none⟩)), isV (.int .i64 x), isV (.pointer (some ⟨w.heap.size, 0, none⟩)), isV (.int .i64 Wd), isV (.bool false), isV (.bool false), isV (.bool false), isV undef, isV undef, isV undef, isV (.bool false), isV (.bool false), isV undef, isV undef, isV undef, isV undef, isV undef, isV (.bool false), isV (.bool false), isV undef, isV undef, isV undef, isV (.bool false), isV (.bool false), isV undef, isV undef, isV undef, isV (.bool false), isV (.bool false), isV undef, isV undef, isV undef, isV undef, isV undef, isV undef, isV undef, isV undef, isV undef, isV undef, isV undef, isV (.bool false)] (by rfl) alloc_Z ?_ ?_
    · intro qi qh qA aa wx hb hs hd
      match qi, qh, qA with
      | 0, _, _ => exact .inl ⟨rfl, ⟨_, op_faM0 rfl (hs 3 rfl), rfl⟩⟩
      | 1, _, _ => exact .inl ⟨rfl, op_ldI rfl rfl (hd 0 rfl) ((HE.out.to hb).cell 1 0 rfl rfl)⟩
      | 2, _, _ => exact .inl ⟨rfl, pure_b (bool_eq K0.out) (⟨_, op_geqI rfl (hd 1 rfl) rfl, rfl⟩)⟩
      | 3, _, _ => exact .inl ⟨rfl, op_mv rfl (hd 2 rfl)⟩
      | 4, _, _ => exact .inl ⟨⟨rfl, .inl (hd 3 rfl)⟩, ⟨_, op_faM0 rfl (hs 3 rfl), rfl⟩⟩
      | 5, _, _ => exact .inl ⟨⟨rfl, .inl (hd 3 rfl)⟩, op_ldI rfl rfl (hd 4 rfl) ((HE.out.to hb).cell 1 0 rfl rfl)⟩
      | 6, _, _ => exact .inl ⟨⟨rfl, .inl (hd 3 rfl)⟩, ⟨_, op_faZ0 rfl (hs 2 rfl), rfl⟩⟩
      | 7, _, _ => exact .inl ⟨⟨rfl, .inl (hd 3 rfl)⟩, op_ldI rfl rfl (hd 6 rfl) ((HE.out.to hb).cell 0 0 rfl rfl)⟩
      | 8, _, _ => exact .inl ⟨⟨rfl, .inl (hd 3 rfl)⟩, pure_b (bool_eq K1.out) (⟨_, op_lssI rfl (hd 5 rfl) (hd 7 rfl), rfl⟩)⟩
      | 9, _, _ => exact .inl ⟨rfl, ⟨_, op_pickT rfl (hd 3 rfl) (hd 8 rfl), rfl⟩⟩
      | 10, _, _ => exact .inl ⟨rfl, op_mv rfl (hd 9 rfl)⟩
      | 11, _, _ => exact .inr ⟨⟨rfl, .inl (hd 10 rfl)⟩, rfl⟩
      | 12, _, _ => exact .inr ⟨⟨rfl, .inl (hd 10 rfl)⟩, rfl⟩
      | 13, _, _ => exact .inr ⟨⟨rfl, .inl (hd 10 rfl)⟩, rfl⟩
      | 14, _, _ => exact .inl ⟨rfl, ⟨_, op_pickF rfl (hd 10 rfl) rfl, rfl⟩⟩
      | 15, _, _ => exact .inl ⟨rfl, op_mv rfl (hd 14 rfl)⟩
      | 16, _, _ => exact .inr ⟨⟨rfl, .inl (hd 15 rfl)⟩, rfl⟩
      | 17, _, _ => exact .inr ⟨⟨rfl, .inl (hd 15 rfl)⟩, rfl⟩
      | 18, _, _ => exact .inr ⟨⟨rfl, .inl (hd 15 rfl)⟩, rfl⟩
      | 19, _, _ => exact .inr ⟨⟨rfl, .inl (hd 15 rfl)⟩, rfl⟩
      | 20, _, _ => exact .inr ⟨⟨rfl, .inl (hd 15 rfl)⟩, rfl⟩
      | 21, _, _ => exact .inl ⟨rfl, ⟨_, op_pickF rfl (hd 15 rfl) rfl, rfl⟩⟩
      | 22, _, _ => exact .inl ⟨rfl, op_mv rfl (hd 21 rfl)⟩
      | 23, _, _ => exact .inr ⟨⟨rfl, .inl (hd 22 rfl)⟩, rfl⟩
      | 24, _, _ => exact .inr ⟨⟨rfl, .inl (hd 22 rfl)⟩, rfl⟩
      | 25, _, _ => exact .inr ⟨⟨rfl, .inl (hd 22 rfl)⟩, rfl⟩
      | 26, _, _ => exact .inl ⟨rfl, ⟨_, op_pickF rfl (hd 22 rfl) rfl, rfl⟩⟩
      | 27, _, _ => exact .inl ⟨rfl, op_mv rfl (hd 26 rfl)⟩
      | 28, _, _ => exact .inr ⟨⟨rfl, .inl (hd 27 rfl)⟩, rfl⟩
      | 29, _, _ => exact .inr ⟨⟨rfl, .inl (hd 27 rfl)⟩, rfl⟩
      | 30, _, _ => exact .inr ⟨⟨rfl, .inl (hd 27 rfl)⟩, rfl⟩
      | 31, _, _ => exact .inl ⟨rfl, ⟨_, op_pickF rfl (hd 27 rfl) rfl, rfl⟩⟩
      | 32, _, _ => exact .inl ⟨rfl, op_mv rfl (hd 31 rfl)⟩
      | 33, _, _ => exact .inr ⟨⟨rfl, .inl (hd 32 rfl)⟩, rfl⟩
      | 34, _, _ => exact .inr ⟨⟨rfl, .inl (hd 32 rfl)⟩, rfl⟩
      | 35, _, _ => exact .inr ⟨⟨rfl, .inl (hd 32 rfl)⟩, rfl⟩
      | 36, _, _ => exact .inr ⟨⟨rfl, .inl (hd 32 rfl)⟩, rfl⟩
      | 37, _, _ => exact .inr ⟨⟨rfl, .inl (hd 32 rfl)⟩, rfl⟩
      | 38, _, _ => exact .inr ⟨⟨rfl, .inr ⟨rfl, hd 37 rfl⟩⟩, rfl⟩
      | 39, _, _ => exact .inr ⟨⟨rfl, .inr ⟨rfl, hd 37 rfl⟩⟩, rfl⟩
      | 40, _, _ => exact .inr ⟨⟨rfl, .inr ⟨rfl, hd 37 rfl⟩⟩, rfl⟩
      | 41, _, _ => exact .inr ⟨⟨rfl, .inr ⟨rfl, hd 37 rfl⟩⟩, rfl⟩
      | 42, _, _ => exact .inr ⟨⟨rfl, .inr ⟨rfl, hd 37 rfl⟩⟩, rfl⟩
      | 43, _, _ => exact .inr ⟨⟨rfl, .inl (hd 32 rfl)⟩, rfl⟩
      | 44, _, _ => exact .inl ⟨rfl, ⟨_, op_pickF rfl (hd 32 rfl) rfl, rfl⟩⟩
      | qi + 45, h, _ => omega
    intro vs X1 hb hv hal hne
    replace HB := Hd.mk (bel_then HB.out hb)
    replace HE := Hd.mk (HE.out.to hb)
    have e49 : vs 49 = .bool false := hv 44 (by decide) rfl
    simp only [PA, e49]
    clear hv hal hne hb e49
    go_wp2_with fail
    go_ret
    exact ⟨_, rfl, HB.out, rfl⟩
  rw [show alB Wd Ht x y t = false by unfold alB; simp [h0] <;> omega]
  have K0 := Hd.mk (decide_eq_false h0)
  go_enter Try.func51, Try.ntmps51
  go_upto_region 1 with fail
  obtain ⟨W0, hW0⟩ : ∃ W : World, W = (w.alloc (.cells #[.int .i64 Wd, .int .i64 Ht] 84)).alloc (.cells #[.int .i64 x, .int .i64 y, .int .i64 t, .bool f] 31) := ⟨_, rfl⟩
  rw [← hW0]
  obtain ⟨he, hb⟩ := env_two hW0
  have HE := Hd.mk he
  have HB := Hd.mk hb
  clear he hb hW0
  refine wp_region_vd 45 [5, 6, 7, 8, 9, 10, 11, 12, 13, 14, 15, 16, 17, 18, 19, 20, 21, 22, 23, 24, 25, 26, 27, 28, 29, 30, 31, 32, 33, 34, 35, 36, 37, 38, 39, 40, 41, 42, 43, 44, 45, 46, 47, 48, 49] [0, 2, 3, 9, 10, 14, 15, 21, 22, 26, 27, 31, 32, 44] [] 84 [.int .i64 0, .int .i64 0] [isV (.pointer (some ⟨w.heap.size + 1, 0, none⟩)), isV (.int .i64 x), isV (.bool false), isV (.bool false), isV undef, isV undef, isV undef, isV undef, isV undef, isV (.bool false), isV (.bool false), isV undef, isV undef, isV undef, isV (.bool false), isV (.bool false), isV undef, isV undef, isV undef, isV undef, isV undef, isV (.bool false), isV (.bool false), isV undef, isV undef, isV undef, isV (.bool false), isV (.bool false), isV undef, isV undef, isV undef, isV (.bool false), isV (.bool false), isV undef, isV undef, isV undef, isV undef, isV undef, isV undef, isV undef, isV undef, isV undef, isV undef, isV undef, isV (.bool false)] (by rfl) alloc_Z ?_ ?_
  · intro qi qh qA aa wx hb hs hd
    match qi, qh, qA with
    | 0, _, _ => exact .inl ⟨rfl, ⟨_, op_faM0 rfl (hs 3 rfl), rfl⟩⟩
    | 1, _, _ => exact .inl ⟨rfl, op_ldI rfl rfl (hd 0 rfl) ((HE.out.to hb).cell 1 0 rfl rfl)⟩
    | 2, _, _ => exact .inl ⟨rfl, pure_b (bool_eq K0.out) (⟨_, op_geqI rfl (hd 1 rfl) rfl, rfl⟩)⟩
    | 3, _, _ => exact .inl ⟨rfl, op_mv rfl (hd 2 rfl)⟩
    | 4, _, _ => exact .inr ⟨⟨rfl, .inl (hd 3 rfl)⟩, rfl⟩
    | 5, _, _ => exact .inr ⟨⟨rfl, .inl (hd 3 rfl)⟩, rfl⟩
    | 6, _, _ => exact .inr ⟨⟨rfl, .inl (hd 3 rfl)⟩, rfl⟩
    | 7, _, _ => exact .inr ⟨⟨rfl, .inl (hd 3 rfl)⟩, rfl⟩
    | 8, _, _ => exact .inr ⟨⟨rfl, .inl (hd 3 rfl)⟩, rfl⟩
    | 9, _, _ => exact .inl ⟨rfl, ⟨_, op_pickF rfl (hd 3 rfl) rfl, rfl⟩⟩
    | 10, _, _ => exact .inl ⟨rfl, op_mv rfl (hd 9 rfl)⟩
    | 11, _, _ => exact .inr ⟨⟨rfl, .inl (hd 10 rfl)⟩, rfl⟩
    | 12, _, _ => exact .inr ⟨⟨rfl, .inl (hd 10 rfl)⟩, rfl⟩
    | 13, _, _ => exact .inr ⟨⟨rfl, .inl (hd 10 rfl)⟩, rfl⟩
    | 14, _, _ => exact .inl ⟨rfl, ⟨_, op_pickF rfl (hd 10 rfl) rfl, rfl⟩⟩
    | 15, _, _ => exact .inl ⟨rfl, op_mv rfl (hd 14 rfl)⟩
    | 16, _, _ => exact .inr ⟨⟨rfl, .inl (hd 15 rfl)⟩, rfl⟩
    | 17, _, _ => exact .inr ⟨⟨rfl, .inl (hd 15 rfl)⟩, rfl⟩
    | 18, _, _ => exact .inr ⟨⟨rfl, .inl (hd 15 rfl)⟩, rfl⟩
    | 19, _, _ => exact .inr ⟨⟨rfl, .inl (hd 15 rfl)⟩, rfl⟩
    | 20, _, _ => exact .inr ⟨⟨rfl, .inl (hd 15 rfl)⟩, rfl⟩
    | 21, _, _ => exact .inl ⟨rfl, ⟨_, op_pickF rfl (hd 15 rfl) rfl, rfl⟩⟩
    | 22, _, _ => exact .inl ⟨rfl, op_mv rfl (hd 21 rfl)⟩
    | 23, _, _ => exact .inr ⟨⟨rfl, .inl (hd 22 rfl)⟩, rfl⟩
    | 24, _, _ => exact .inr ⟨⟨rfl, .inl (hd 22 rfl)⟩, rfl⟩
    | 25, _, _ => exact .inr ⟨⟨rfl, .inl (hd 22 rfl)⟩, rfl⟩
    | 26, _, _ => exact .inl ⟨rfl, ⟨_, op_pickF rfl (hd 22 rfl) rfl, rfl⟩⟩
    | 27, _, _ => exact .inl ⟨rfl, op_mv rfl (hd 26 rfl)⟩
    | 28, _, _ => exact .inr ⟨⟨rfl, .inl (hd 27 rfl)⟩, rfl⟩
    | 29, _, _ => exact .inr ⟨⟨rfl, .inl (hd 27 rfl)⟩, rfl⟩
    | 30, _, _ => exact .inr ⟨⟨rfl, .inl (hd 27 rfl)⟩, rfl⟩
    | 31, _, _ => exact .inl ⟨rfl, ⟨_, op_pickF rfl (hd 27 rfl) rfl, rfl⟩⟩
    | 32, _, _ => exact .inl ⟨rfl, op_mv rfl (hd 31 rfl)⟩
    | 33, _, _ => exact .inr ⟨⟨rfl, .inl (hd 32 rfl)⟩, rfl⟩
    | 34, _, _ => exact .inr ⟨⟨rfl, .inl (hd 32 rfl)⟩, rfl⟩
    | 35, _, _ => exact .inr ⟨⟨rfl, .inl (hd 32 rfl)⟩, rfl⟩
    | 36, _, _ => exact .inr ⟨⟨rfl, .inl (hd 32 rfl)⟩, rfl⟩
    | 37, _, _ => exact .inr ⟨⟨rfl, .inl (hd 32 rfl)⟩, rfl⟩
    | 38, _, _ => exact .inr ⟨⟨rfl, .inr ⟨rfl, hd 37 rfl⟩⟩, rfl⟩
    | 39, _, _ => exact .inr ⟨⟨rfl, .inr ⟨rfl, hd 37 rfl⟩⟩, rfl⟩
    | 40, _, _ => exact .inr ⟨⟨rfl, .inr ⟨rfl, hd 37 rfl⟩⟩, rfl⟩
    | 41, _, _ => exact .inr ⟨⟨rfl, .inr ⟨rfl, hd 37 rfl⟩⟩, rfl⟩
    | 42, _, _ => exact .inr ⟨⟨rfl, .inr ⟨rfl, hd 37 rfl⟩⟩, rfl⟩
    | 43, _, _ => exact .inr ⟨⟨rfl, .inl (hd 32 rfl)⟩, rfl⟩
    | 44, _, _ => exact .inl ⟨rfl, ⟨_, op_pickF rfl (hd 32 rfl) rfl, rfl⟩⟩
    | qi + 45, h, _ => omega
  intro vs X1 hb hv hal hne
  replace HB := Hd.mk (bel_then HB.out hb)
  replace HE := Hd.mk (HE.out.to hb)
  have e49 : vs 49 = .bool false := hv 44 (by decide) rfl
  simp only [PA, e49]
  clear hv hal hne hb e49
  go_wp2_with fail
  go_ret
  exact ⟨_, rfl, HB.out, rfl⟩
set_option maxRecDepth 100000 in
set_option maxHeartbeats 1000000 in
theorem Fits_got (Wd Ht x y t : Int) (f : Bool) (w : World) :
    Calls Try.prog 19 #[.int .i64 Wd, .int .i64 Ht, .agg #[.int .i64 x, .int .i64 y, .int .i64 t, .bool f]] w (Got w (isV (.bool (alB Wd Ht x y t))).p) := by
  by_cases h0 : 0 ≤ x
  · have K0 := Hd.mk (decide_eq_true h0)
    by_cases h1 : x < Wd
    · have K1 := Hd.mk (decide_eq_true h1)
      by_cases h2 : 0 ≤ y
      · have K2 := Hd.mk (decide_eq_true h2)
        by_cases h3 : y < Ht
        · have K3 := Hd.mk (decide_eq_true h3)
          by_cases h4 : 0 ≤ t
          · have K4 := Hd.mk (decide_eq_true h4)
            by_cases h5 : t < 4
            · have K5 := Hd.mk (decide_eq_true (show t ≤ 3 by omega))
              by_cases h6 : Wd = Ht
              · rw [show alB Wd Ht x y t = true by unfold alB; simp [h0, h1, h2, h3, h4, h5, h6] <;> omega]
                have KQ := Hd.mk (decide_eq_true h6)
                clear h6
                go_enter Try.func19, Try.ntmps19
                go_upto_region 1 with fail
                obtain ⟨W0, hW0⟩ : ∃ W : World, W = w.alloc (.cells #[.int .i64 x, .int .i64 y, .int .i64 t, .bool f] 26) := ⟨_, rfl⟩
                rw [← hW0]
                obtain ⟨he, hb⟩ := env_one hW0
                have HE := Hd.mk he
                have HB := Hd.mk hb
                clear he hb hW0
                refine wp_region_vd 41 [7, 8, 9, 10, 11, 12, 13, 14, 15, 16, 17, 18, 19, 20, 21, 22, 23, 24, 25, 26, 27, 28, 29, 30, 31, 32, 33, 34, 35, 36, 37, 38, 39, 40, 41, 42, 43, 44, 45, 46, 47] [0, 2, 3, 4, 6, 7, 8, 9, 10, 12, 13, 14, 15, 17, 18, 19, 20, 21, 23, 24, 25, 26, 28, 29, 30, 31, 32, 33, 34, 39, 40] [] 84 [.int .i64 0, .int .i64 0] [isV (.pointer (some ⟨w.heap.size, 0, none⟩)), isV (.int .i64 x), isV (.bool true), isV (.bool true), isV (.pointer (some ⟨w.heap.size, 0, none⟩)), isV (.int .i64 x), isV (.int .i64 Wd), isV (.bool true), isV (.bool true), isV (.bool true), isV (.pointer (some ⟨w.heap.size, 1, none⟩)), isV (.int .i64 y), isV (.bool true), isV (.bool true), isV (.bool true), isV (.pointer (some ⟨w.heap.size, 1, none⟩)), isV (.int .i64 y), isV (.int .i64 Ht), isV (.bool true), isV (.bool true), isV (.bool true), isV (.pointer (some ⟨w.heap.size, 2, none⟩)), isV (.int .i64 t), isV (.bool true), isV (.bool true), isV (.bool true), isV (.pointer (some ⟨w.heap.size, 2, none⟩)), isV (.int .i64 t), isV (.bool true), isV (.bool true), isV (.bool true), isV (.int .i64 Wd), isV (.int .i64 Ht), isV (.bool true), isV (.bool true), isV undef, isV undef, isV undef, isV undef, isV (.bool true), isV (.bool true)] (by rfl) alloc_Z ?_ ?_
                · intro qi qh qA aa wx hb hs hd
                  match qi, qh, qA with
                  | 0, _, _ => exact .inl ⟨rfl, ⟨_, op_faN0 rfl (hs 5 rfl), rfl⟩⟩
                  | 1, _, _ => exact .inl ⟨rfl, op_ldI rfl rfl (hd 0 rfl) ((HE.out.to hb).cell 0 0 rfl rfl)⟩
                  | 2, _, _ => exact .inl ⟨rfl, pure_b (bool_eq K0.out) (⟨_, op_geqI rfl (hd 1 rfl) rfl, rfl⟩)⟩
                  | 3, _, _ => exact .inl ⟨rfl, op_mv rfl (hd 2 rfl)⟩
                  | 4, _, _ => exact .inl ⟨⟨rfl, .inl (hd 3 rfl)⟩, ⟨_, op_faN0 rfl (hs 5 rfl), rfl⟩⟩
                  | 5, _, _ => exact .inl ⟨⟨rfl, .inl (hd 3 rfl)⟩, op_ldI rfl rfl (hd 4 rfl) ((HE.out.to hb).cell 0 0 rfl rfl)⟩
                  | 6, _, _ => exact .inl ⟨⟨rfl, .inl (hd 3 rfl)⟩, op_mv rfl (hs 0 rfl)⟩
                  | 7, _, _ => exact .inl ⟨⟨rfl, .inl (hd 3 rfl)⟩, pure_b (bool_eq K1.out) (⟨_, op_lssI rfl (hd 5 rfl) (hd 6 rfl), rfl⟩)⟩
                  | 8, _, _ => exact .inl ⟨rfl, ⟨_, op_pickT rfl (hd 3 rfl) (hd 7 rfl), rfl⟩⟩
                  | 9, _, _ => exact .inl ⟨rfl, op_mv rfl (hd 8 rfl)⟩
                  | 10, _, _ => exact .inl ⟨⟨rfl, .inl (hd 9 rfl)⟩, ⟨_, op_faN1 rfl (hs 5 rfl), rfl⟩⟩
                  | 11, _, _ => exact .inl ⟨⟨rfl, .inl (hd 9 rfl)⟩, op_ldI rfl rfl (hd 10 rfl) ((HE.out.to hb).cell 0 1 rfl rfl)⟩
                  | 12, _, _ => exact .inl ⟨⟨rfl, .inl (hd 9 rfl)⟩, pure_b (bool_eq K2.out) (⟨_, op_geqI rfl (hd 11 rfl) rfl, rfl⟩)⟩
                  | 13, _, _ => exact .inl ⟨rfl, ⟨_, op_pickT rfl (hd 9 rfl) (hd 12 rfl), rfl⟩⟩
                  | 14, _, _ => exact .inl ⟨rfl, op_mv rfl (hd 13 rfl)⟩
                  | 15, _, _ => exact .inl ⟨⟨rfl, .inl (hd 14 rfl)⟩, ⟨_, op_faN1 rfl (hs 5 rfl), rfl⟩⟩
                  | 16, _, _ => exact .inl ⟨⟨rfl, .inl (hd 14 rfl)⟩, op_ldI rfl rfl (hd 15 rfl) ((HE.out.to hb).cell 0 1 rfl rfl)⟩
                  | 17, _, _ => exact .inl ⟨⟨rfl, .inl (hd 14 rfl)⟩, op_mv rfl (hs 1 rfl)⟩
                  | 18, _, _ => exact .inl ⟨⟨rfl, .inl (hd 14 rfl)⟩, pure_b (bool_eq K3.out) (⟨_, op_lssI rfl (hd 16 rfl) (hd 17 rfl), rfl⟩)⟩
                  | 19, _, _ => exact .inl ⟨rfl, ⟨_, op_pickT rfl (hd 14 rfl) (hd 18 rfl), rfl⟩⟩
                  | 20, _, _ => exact .inl ⟨rfl, op_mv rfl (hd 19 rfl)⟩
                  | 21, _, _ => exact .inl ⟨⟨rfl, .inl (hd 20 rfl)⟩, ⟨_, op_faN2 rfl (hs 5 rfl), rfl⟩⟩
                  | 22, _, _ => exact .inl ⟨⟨rfl, .inl (hd 20 rfl)⟩, op_ldI rfl rfl (hd 21 rfl) ((HE.out.to hb).cell 0 2 rfl rfl)⟩
                  | 23, _, _ => exact .inl ⟨⟨rfl, .inl (hd 20 rfl)⟩, pure_b (bool_eq K4.out) (⟨_, op_geqI rfl (hd 22 rfl) rfl, rfl⟩)⟩
                  | 24, _, _ => exact .inl ⟨rfl, ⟨_, op_pickT rfl (hd 20 rfl) (hd 23 rfl), rfl⟩⟩
                  | 25, _, _ => exact .inl ⟨rfl, op_mv rfl (hd 24 rfl)⟩
                  | 26, _, _ => exact .inl ⟨⟨rfl, .inl (hd 25 rfl)⟩, ⟨_, op_faN2 rfl (hs 5 rfl), rfl⟩⟩
                  | 27, _, _ => exact .inl ⟨⟨rfl, .inl (hd 25 rfl)⟩, op_ldI rfl rfl (hd 26 rfl) ((HE.out.to hb).cell 0 2 rfl rfl)⟩
                  | 28, _, _ => exact .inl ⟨⟨rfl, .inl (hd 25 rfl)⟩, pure_b (bool_eq K5.out) (⟨_, op_leqI rfl (hd 27 rfl) rfl, rfl⟩)⟩
                  | 29, _, _ => exact .inl ⟨rfl, ⟨_, op_pickT rfl (hd 25 rfl) (hd 28 rfl), rfl⟩⟩
                  | 30, _, _ => exact .inl ⟨rfl, op_mv rfl (hd 29 rfl)⟩
                  | 31, _, _ => exact .inl ⟨⟨rfl, .inl (hd 30 rfl)⟩, op_mv rfl (hs 0 rfl)⟩
                  | 32, _, _ => exact .inl ⟨⟨rfl, .inl (hd 30 rfl)⟩, op_mv rfl (hs 1 rfl)⟩
                  | 33, _, _ => exact .inl ⟨⟨rfl, .inl (hd 30 rfl)⟩, pure_b (bool_eq KQ.out) (⟨_, op_eqlI rfl (hd 31 rfl) (hd 32 rfl), rfl⟩)⟩
                  | 34, _, _ => exact .inl ⟨⟨rfl, .inl (hd 30 rfl)⟩, op_mv rfl (hd 33 rfl)⟩
                  | 35, _, _ => exact .inr ⟨⟨rfl, .inl (hd 34 rfl)⟩, rfl⟩
                  | 36, _, _ => exact .inr ⟨⟨rfl, .inl (hd 34 rfl)⟩, rfl⟩
                  | 37, _, _ => exact .inr ⟨⟨rfl, .inl (hd 34 rfl)⟩, rfl⟩
                  | 38, _, _ => exact .inr ⟨⟨rfl, .inl (hd 34 rfl)⟩, rfl⟩
                  | 39, _, _ => exact .inl ⟨⟨rfl, .inl (hd 30 rfl)⟩, ⟨_, op_pickT rfl (hd 34 rfl) rfl, rfl⟩⟩
                  | 40, _, _ => exact .inl ⟨rfl, ⟨_, op_pickT rfl (hd 30 rfl) (hd 39 rfl), rfl⟩⟩
                  | qi + 41, h, _ => omega
                intro vs X1 hb hv hal hne
                replace HB := Hd.mk (bel_then HB.out hb)
                replace HE := Hd.mk (HE.out.to hb)
                have e47 : vs 47 = .bool true := hv 40 (by decide) rfl
                simp only [PA, e47]
                clear hv hal hne hb e47
                go_wp2_with fail
                go_ret
                exact ⟨_, rfl, HB.out, rfl⟩
              have KQ := Hd.mk (decide_eq_false h6)
              by_cases h7 : t % 2 = 0
              · rw [show alB Wd Ht x y t = true by unfold alB; simp [h0, h1, h2, h3, h4, h5, h7] <;> omega]
                have KE := Hd.mk (show decide (Int.tmod t 2 = 0) = true by rw [tmod_nonneg (by omega)]; exact decide_eq_true h7)
                clear h6 h7
                go_enter Try.func19, Try.ntmps19
                go_upto_region 1 with fail
                obtain ⟨W0, hW0⟩ : ∃ W : World, W = w.alloc (.cells #[.int .i64 x, .int .i64 y, .int .i64 t, .bool f] 26) := ⟨_, rfl⟩
                rw [← hW0]
                obtain ⟨he, hb⟩ := env_one hW0
                have HE := Hd.mk he
                have HB := Hd.mk hb
                clear he hb hW0
                refine wp_region_vd 41 [7, 8, 9, 10, 11, 12, 13, 14, 15, 16, 17, 18, 19, 20, 21, 22, 23, 24, 25, 26, 27, 28, 29, 30, 31, 32, 33, 34, 35, 36, 37, 38, 39, 40, 41, 42, 43, 44, 45, 46, 47] [0, 2, 3, 4, 6, 7, 8, 9, 10, 12, 13, 14, 15, 17, 18, 19, 20, 21, 23, 24, 25, 26, 28, 29, 30, 31, 32, 33, 34, 35, 38, 39, 40] [] 84 [.int .i64 0, .int .i64 0] [isV (.pointer (some ⟨w.heap.size, 0, none⟩)), isV (.int .i64 x), isV (.bool true), isV (.bool true), isV (.pointer (some ⟨w.heap.size, 0, none⟩)), isV (.int .i64 x), isV (.int .i64 Wd), isV (.bool true), isV (.bool true), isV (.bool true), isV (.pointer (some ⟨w.heap.size, 1, none⟩)), isV (.int .i64 y), isV (.bool true), isV (.bool true), isV (.bool true), isV (.pointer (some ⟨w.heap.size, 1, none⟩)), isV (.int .i64 y), isV (.int .i64 Ht), isV (.bool true), isV (.bool true), isV (.bool true), isV (.pointer (some ⟨w.heap.size, 2, none⟩)), isV (.int .i64 t), isV (.bool true), isV (.bool true), isV (.bool true), isV (.pointer (some ⟨w.heap.size, 2, none⟩)), isV (.int .i64 t), isV (.bool true), isV (.bool true), isV (.bool true), isV (.int .i64 Wd), isV (.int .i64 Ht), isV (.bool false), isV (.bool false), isV (.pointer (some ⟨w.heap.size, 2, none⟩)), isV (.int .i64 t), isV (.int .i64 (Int.tmod t 2)), isV (.bool true), isV (.bool true), isV (.bool true)] (by rfl) alloc_Z ?_ ?_
                · intro qi qh qA aa wx hb hs hd
                  match qi, qh, qA with
                  | 0, _, _ => exact .inl ⟨rfl, ⟨_, op_faN0 rfl (hs 5 rfl), rfl⟩⟩
                  | 1, _, _ => exact .inl ⟨rfl, op_ldI rfl rfl (hd 0 rfl) ((HE.out.to hb).cell 0 0 rfl rfl)⟩
                  | 2, _, _ => exact .inl ⟨rfl, pure_b (bool_eq K0.out) (⟨_, op_geqI rfl (hd 1 rfl) rfl, rfl⟩)⟩
                  | 3, _, _ => exact .inl ⟨rfl, op_mv rfl (hd 2 rfl)⟩
                  | 4, _, _ => exact .inl ⟨⟨rfl, .inl (hd 3 rfl)⟩, ⟨_, op_faN0 rfl (hs 5 rfl), rfl⟩⟩
                  | 5, _, _ => exact .inl ⟨⟨rfl, .inl (hd 3 rfl)⟩, op_ldI rfl rfl (hd 4 rfl) ((HE.out.to hb).cell 0 0 rfl rfl)⟩
                  | 6, _, _ => exact .inl ⟨⟨rfl, .inl (hd 3 rfl)⟩, op_mv rfl (hs 0 rfl)⟩
                  | 7, _, _ => exact .inl ⟨⟨rfl, .inl (hd 3 rfl)⟩, pure_b (bool_eq K1.out) (⟨_, op_lssI rfl (hd 5 rfl) (hd 6 rfl), rfl⟩)⟩
                  | 8, _, _ => exact .inl ⟨rfl, ⟨_, op_pickT rfl (hd 3 rfl) (hd 7 rfl), rfl⟩⟩
                  | 9, _, _ => exact .inl ⟨rfl, op_mv rfl (hd 8 rfl)⟩
                  | 10, _, _ => exact .inl ⟨⟨rfl, .inl (hd 9 rfl)⟩, ⟨_, op_faN1 rfl (hs 5 rfl), rfl⟩⟩
                  | 11, _, _ => exact .inl ⟨⟨rfl, .inl (hd 9 rfl)⟩, op_ldI rfl rfl (hd 10 rfl) ((HE.out.to hb).cell 0 1 rfl rfl)⟩
                  | 12, _, _ => exact .inl ⟨⟨rfl, .inl (hd 9 rfl)⟩, pure_b (bool_eq K2.out) (⟨_, op_geqI rfl (hd 11 rfl) rfl, rfl⟩)⟩
                  | 13, _, _ => exact .inl ⟨rfl, ⟨_, op_pickT rfl (hd 9 rfl) (hd 12 rfl), rfl⟩⟩
                  | 14, _, _ => exact .inl ⟨rfl, op_mv rfl (hd 13 rfl)⟩
                  | 15, _, _ => exact .inl ⟨⟨rfl, .inl (hd 14 rfl)⟩, ⟨_, op_faN1 rfl (hs 5 rfl), rfl⟩⟩
                  | 16, _, _ => exact .inl ⟨⟨rfl, .inl (hd 14 rfl)⟩, op_ldI rfl rfl (hd 15 rfl) ((HE.out.to hb).cell 0 1 rfl rfl)⟩
                  | 17, _, _ => exact .inl ⟨⟨rfl, .inl (hd 14 rfl)⟩, op_mv rfl (hs 1 rfl)⟩
                  | 18, _, _ => exact .inl ⟨⟨rfl, .inl (hd 14 rfl)⟩, pure_b (bool_eq K3.out) (⟨_, op_lssI rfl (hd 16 rfl) (hd 17 rfl), rfl⟩)⟩
                  | 19, _, _ => exact .inl ⟨rfl, ⟨_, op_pickT rfl (hd 14 rfl) (hd 18 rfl), rfl⟩⟩
                  | 20, _, _ => exact .inl ⟨rfl, op_mv rfl (hd 19 rfl)⟩
                  | 21, _, _ => exact .inl ⟨⟨rfl, .inl (hd 20 rfl)⟩, ⟨_, op_faN2 rfl (hs 5 rfl), rfl⟩⟩
                  | 22, _, _ => exact .inl ⟨⟨rfl, .inl (hd 20 rfl)⟩, op_ldI rfl rfl (hd 21 rfl) ((HE.out.to hb).cell 0 2 rfl rfl)⟩
                  | 23, _, _ => exact .inl ⟨⟨rfl, .inl (hd 20 rfl)⟩, pure_b (bool_eq K4.out) (⟨_, op_geqI rfl (hd 22 rfl) rfl, rfl⟩)⟩
                  | 24, _, _ => exact .inl ⟨rfl, ⟨_, op_pickT rfl (hd 20 rfl) (hd 23 rfl), rfl⟩⟩
                  | 25, _, _ => exact .inl ⟨rfl, op_mv rfl (hd 24 rfl)⟩
                  | 26, _, _ => exact .inl ⟨⟨rfl, .inl (hd 25 rfl)⟩, ⟨_, op_faN2 rfl (hs 5 rfl), rfl⟩⟩
                  | 27, _, _ => exact .inl ⟨⟨rfl, .inl (hd 25 rfl)⟩, op_ldI rfl rfl (hd 26 rfl) ((HE.out.to hb).cell 0 2 rfl rfl)⟩
                  | 28, _, _ => exact .inl ⟨⟨rfl, .inl (hd 25 rfl)⟩, pure_b (bool_eq K5.out) (⟨_, op_leqI rfl (hd 27 rfl) rfl, rfl⟩)⟩
                  | 29, _, _ => exact .inl ⟨rfl, ⟨_, op_pickT rfl (hd 25 rfl) (hd 28 rfl), rfl⟩⟩
                  | 30, _, _ => exact .inl ⟨rfl, op_mv rfl (hd 29 rfl)⟩
                  | 31, _, _ => exact .inl ⟨⟨rfl, .inl (hd 30 rfl)⟩, op_mv rfl (hs 0 rfl)⟩
                  | 32, _, _ => exact .inl ⟨⟨rfl, .inl (hd 30 rfl)⟩, op_mv rfl (hs 1 rfl)⟩
                  | 33, _, _ => exact .inl ⟨⟨rfl, .inl (hd 30 rfl)⟩, pure_b (bool_eq KQ.out) (⟨_, op_eqlI rfl (hd 31 rfl) (hd 32 rfl), rfl⟩)⟩
                  | 34, _, _ => exact .inl ⟨⟨rfl, .inl (hd 30 rfl)⟩, op_mv rfl (hd 33 rfl)⟩
                  | 35, _, _ => exact .inl ⟨⟨rfl, .inl (hd 34 rfl)⟩, ⟨_, op_faN2 rfl (hs 5 rfl), rfl⟩⟩
                  | 36, _, _ => exact .inl ⟨⟨rfl, .inl (hd 34 rfl)⟩, op_ldI rfl rfl (hd 35 rfl) ((HE.out.to hb).cell 0 2 rfl rfl)⟩
                  | 37, _, _ => exact .inl ⟨⟨rfl, .inl (hd 34 rfl)⟩, op_run rfl (op_rem (by omega) (by unfold Fit; omega) (by omega) rfl (hd 36 rfl) rfl _) rfl⟩
                  | 38, _, _ => exact .inl ⟨⟨rfl, .inl (hd 34 rfl)⟩, pure_b (bool_eq KE.out) (⟨_, op_eqlI rfl (hd 37 rfl) rfl, rfl⟩)⟩
                  | 39, _, _ => exact .inl ⟨⟨rfl, .inl (hd 30 rfl)⟩, ⟨_, op_pickF rfl (hd 34 rfl) (hd 38 rfl), rfl⟩⟩
                  | 40, _, _ => exact .inl ⟨rfl, ⟨_, op_pickT rfl (hd 30 rfl) (hd 39 rfl), rfl⟩⟩
                  | qi + 41, h, _ => omega
                intro vs X1 hb hv hal hne
                replace HB := Hd.mk (bel_then HB.out hb)
                replace HE := Hd.mk (HE.out.to hb)
                have e47 : vs 47 = .bool true := hv 40 (by decide) rfl
                simp only [PA, e47]
                clear hv hal hne hb e47
                go_wp2_with fail
                go_ret
                exact ⟨_, rfl, HB.out, rfl⟩
              rw [show alB Wd Ht x y t = false by unfold alB; simp [h0, h1, h2, h3, h4, h5, h6, h7] <;> omega]
              have KE := Hd.mk (show decide (Int.tmod t 2 = 0) = false by rw [tmod_nonneg (by omega)]; exact decide_eq_false h7)
              clear h6 h7
              go_enter Try.func19, Try.ntmps19
              go_upto_region 1 with fail
              obtain ⟨W0, hW0⟩ : ∃ W : World, W = w.alloc (.cells #[.int .i64 x, .int .i64 y, .int .i64 t, .bool f] 26) := ⟨_, rfl⟩
              rw [← hW0]
              obtain ⟨he, hb⟩ := env_one hW0
              have HE := Hd.mk he
              have HB := Hd.mk hb
              clear he hb hW0
              refine wp_region_vd 41 [7, 8, 9, 10, 11, 12, 13, 14, 15, 16, 17, 18, 19, 20, 21, 22, 23, 24, 25, 26, 27, 28, 29, 30, 31, 32, 33, 34, 35, 36, 37, 38, 39, 40, 41, 42, 43, 44, 45, 46, 47] [0, 2, 3, 4, 6, 7, 8, 9, 10, 12, 13, 14, 15, 17, 18, 19, 20, 21, 23, 24, 25, 26, 28, 29, 30, 31, 32, 33, 34, 35, 38, 39, 40] [] 84 [.int .i64 0, .int .i64 0] [isV (.pointer (some ⟨w.heap.size, 0, none⟩)), isV (.int .i64 x), isV (.bool true), isV (.bool true), isV (.pointer (some ⟨w.heap.size, 0, none⟩)), isV (.int .i64 x), isV (.int .i64 Wd), isV (.bool true), isV (.bool true), isV (.bool true), isV (.pointer (some ⟨w.heap.size, 1, none⟩)), isV (.int .i64 y), isV (.bool true), isV (.bool true), isV (.bool true), isV (.pointer (some ⟨w.heap.size, 1, none⟩)), isV (.int .i64 y), isV (.int .i64 Ht), isV (.bool true), isV (.bool true), isV (.bool true), isV (.pointer (some ⟨w.heap.size, 2, none⟩)), isV (.int .i64 t), isV (.bool true), isV (.bool true), isV (.bool true), isV (.pointer (some ⟨w.heap.size, 2, none⟩)), isV (.int .i64 t), isV (.bool true), isV (.bool true), isV (.bool true), isV (.int .i64 Wd), isV (.int .i64 Ht), isV (.bool false), isV (.bool false), isV (.pointer (some ⟨w.heap.size, 2, none⟩)), isV (.int .i64 t), isV (.int .i64 (Int.tmod t 2)), isV (.bool false), isV (.bool false), isV (.bool false)] (by rfl) alloc_Z ?_ ?_
              · intro qi qh qA aa wx hb hs hd
                match qi, qh, qA with
                | 0, _, _ => exact .inl ⟨rfl, ⟨_, op_faN0 rfl (hs 5 rfl), rfl⟩⟩
                | 1, _, _ => exact .inl ⟨rfl, op_ldI rfl rfl (hd 0 rfl) ((HE.out.to hb).cell 0 0 rfl rfl)⟩
                | 2, _, _ => exact .inl ⟨rfl, pure_b (bool_eq K0.out) (⟨_, op_geqI rfl (hd 1 rfl) rfl, rfl⟩)⟩
                | 3, _, _ => exact .inl ⟨rfl, op_mv rfl (hd 2 rfl)⟩
                | 4, _, _ => exact .inl ⟨⟨rfl, .inl (hd 3 rfl)⟩, ⟨_, op_faN0 rfl (hs 5 rfl), rfl⟩⟩
                | 5, _, _ => exact .inl ⟨⟨rfl, .inl (hd 3 rfl)⟩, op_ldI rfl rfl (hd 4 rfl) ((HE.out.to hb).cell 0 0 rfl rfl)⟩
                | 6, _, _ => exact .inl ⟨⟨rfl, .inl (hd 3 rfl)⟩, op_mv rfl (hs 0 rfl)⟩
                | 7, _, _ => exact .inl ⟨⟨rfl, .inl (hd 3 rfl)⟩, pure_b (bool_eq K1.out) (⟨_, op_lssI rfl (hd 5 rfl) (hd 6 rfl), rfl⟩)⟩
                | 8, _, _ => exact .inl ⟨rfl, ⟨_, op_pickT rfl (hd 3 rfl) (hd 7 rfl), rfl⟩⟩
                | 9, _, _ => exact .inl ⟨rfl, op_mv rfl (hd 8 rfl)⟩
                | 10, _, _ => exact .inl ⟨⟨rfl, .inl (hd 9 rfl)⟩, ⟨_, op_faN1 rfl (hs 5 rfl), rfl⟩⟩
                | 11, _, _ => exact .inl ⟨⟨rfl, .inl (hd 9 rfl)⟩, op_ldI rfl rfl (hd 10 rfl) ((HE.out.to hb).cell 0 1 rfl rfl)⟩
                | 12, _, _ => exact .inl ⟨⟨rfl, .inl (hd 9 rfl)⟩, pure_b (bool_eq K2.out) (⟨_, op_geqI rfl (hd 11 rfl) rfl, rfl⟩)⟩
                | 13, _, _ => exact .inl ⟨rfl, ⟨_, op_pickT rfl (hd 9 rfl) (hd 12 rfl), rfl⟩⟩
                | 14, _, _ => exact .inl ⟨rfl, op_mv rfl (hd 13 rfl)⟩
                | 15, _, _ => exact .inl ⟨⟨rfl, .inl (hd 14 rfl)⟩, ⟨_, op_faN1 rfl (hs 5 rfl), rfl⟩⟩
                | 16, _, _ => exact .inl ⟨⟨rfl, .inl (hd 14 rfl)⟩, op_ldI rfl rfl (hd 15 rfl) ((HE.out.to hb).cell 0 1 rfl rfl)⟩
                | 17, _, _ => exact .inl ⟨⟨rfl, .inl (hd 14 rfl)⟩, op_mv rfl (hs 1 rfl)⟩
                | 18, _, _ => exact .inl ⟨⟨rfl, .inl (hd 14 rfl)⟩, pure_b (bool_eq K3.out) (⟨_, op_lssI rfl (hd 16 rfl) (hd 17 rfl), rfl⟩)⟩
                | 19, _, _ => exact .inl ⟨rfl, ⟨_, op_pickT rfl (hd 14 rfl) (hd 18 rfl), rfl⟩⟩
                | 20, _, _ => exact .inl ⟨rfl, op_mv rfl (hd 19 rfl)⟩
                | 21, _, _ => exact .inl ⟨⟨rfl, .inl (hd 20 rfl)⟩, ⟨_, op_faN2 rfl (hs 5 rfl), rfl⟩⟩
                | 22, _, _ => exact .inl ⟨⟨rfl, .inl (hd 20 rfl)⟩, op_ldI rfl rfl (hd 21 rfl) ((HE.out.to hb).cell 0 2 rfl rfl)⟩
                | 23, _, _ => exact .inl ⟨⟨rfl, .inl (hd 20 rfl)⟩, pure_b (bool_eq K4.out) (⟨_, op_geqI rfl (hd 22 rfl) rfl, rfl⟩)⟩
                | 24, _, _ => exact .inl ⟨rfl, ⟨_, op_pickT rfl (hd 20 rfl) (hd 23 rfl), rfl⟩⟩
                | 25, _, _ => exact .inl ⟨rfl, op_mv rfl (hd 24 rfl)⟩
                | 26, _, _ => exact .inl ⟨⟨rfl, .inl (hd 25 rfl)⟩, ⟨_, op_faN2 rfl (hs 5 rfl), rfl⟩⟩
                | 27, _, _ => exact .inl ⟨⟨rfl, .inl (hd 25 rfl)⟩, op_ldI rfl rfl (hd 26 rfl) ((HE.out.to hb).cell 0 2 rfl rfl)⟩
                | 28, _, _ => exact .inl ⟨⟨rfl, .inl (hd 25 rfl)⟩, pure_b (bool_eq K5.out) (⟨_, op_leqI rfl (hd 27 rfl) rfl, rfl⟩)⟩
                | 29, _, _ => exact .inl ⟨rfl, ⟨_, op_pickT rfl (hd 25 rfl) (hd 28 rfl), rfl⟩⟩
                | 30, _, _ => exact .inl ⟨rfl, op_mv rfl (hd 29 rfl)⟩
                | 31, _, _ => exact .inl ⟨⟨rfl, .inl (hd 30 rfl)⟩, op_mv rfl (hs 0 rfl)⟩
                | 32, _, _ => exact .inl ⟨⟨rfl, .inl (hd 30 rfl)⟩, op_mv rfl (hs 1 rfl)⟩
                | 33, _, _ => exact .inl ⟨⟨rfl, .inl (hd 30 rfl)⟩, pure_b (bool_eq KQ.out) (⟨_, op_eqlI rfl (hd 31 rfl) (hd 32 rfl), rfl⟩)⟩
                | 34, _, _ => exact .inl ⟨⟨rfl, .inl (hd 30 rfl)⟩, op_mv rfl (hd 33 rfl)⟩
                | 35, _, _ => exact .inl ⟨⟨rfl, .inl (hd 34 rfl)⟩, ⟨_, op_faN2 rfl (hs 5 rfl), rfl⟩⟩
                | 36, _, _ => exact .inl ⟨⟨rfl, .inl (hd 34 rfl)⟩, op_ldI rfl rfl (hd 35 rfl) ((HE.out.to hb).cell 0 2 rfl rfl)⟩
                | 37, _, _ => exact .inl ⟨⟨rfl, .inl (hd 34 rfl)⟩, op_run rfl (op_rem (by omega) (by unfold Fit; omega) (by omega) rfl (hd 36 rfl) rfl _) rfl⟩
                | 38, _, _ => exact .inl ⟨⟨rfl, .inl (hd 34 rfl)⟩, pure_b (bool_eq KE.out) (⟨_, op_eqlI rfl (hd 37 rfl) rfl, rfl⟩)⟩
                | 39, _, _ => exact .inl ⟨⟨rfl, .inl (hd 30 rfl)⟩, ⟨_, op_pickF rfl (hd 34 rfl) (hd 38 rfl), rfl⟩⟩
                | 40, _, _ => exact .inl ⟨rfl, ⟨_, op_pickT rfl (hd 30 rfl) (hd 39 rfl), rfl⟩⟩
                | qi + 41, h, _ => omega
              intro vs X1 hb hv hal hne
              replace HB := Hd.mk (bel_then HB.out hb)
              replace HE := Hd.mk (HE.out.to hb)
              have e47 : vs 47 = .bool false := hv 40 (by decide) rfl
              simp only [PA, e47]
              clear hv hal hne hb e47
              go_wp2_with fail
              go_ret
              exact ⟨_, rfl, HB.out, rfl⟩
            rw [show alB Wd Ht x y t = false by unfold alB; simp [h0, h1, h2, h3, h4, h5] <;> omega]
            have K5 := Hd.mk (decide_eq_false (show ¬ t ≤ 3 by omega))
            go_enter Try.func19, Try.ntmps19
            go_upto_region 1 with fail
            obtain ⟨W0, hW0⟩ : ∃ W : World, W = w.alloc (.cells #[.int .i64 x, .int .i64 y, .int .i64 t, .bool f] 26) := ⟨_, rfl⟩
            rw [← hW0]
            obtain ⟨he, hb⟩ := env_one hW0
            have HE := Hd.mk he
            have HB := Hd.mk hb
            clear he hb hW0
            refine wp_region_vd 41 [7, 8, 9, 10, 11, 12, 13, 14, 15, 16, 17, 18, 19, 20, 21, 22, 23, 24, 25, 26, 27, 28, 29, 30, 31, 32, 33, 34, 35, 36, 37, 38, 39, 40, 41, 42, 43, 44, 45, 46, 47] [0, 2, 3, 4, 6, 7, 8, 9, 10, 12, 13, 14, 15, 17, 18, 19, 20, 21, 23, 24, 25, 26, 28, 29, 30, 40] [] 84 [.int .i64 0, .int .i64 0] [isV (.pointer (some ⟨w.heap.size, 0, none⟩)), isV (.int .i64 x), isV (.bool true), isV (.bool true), isV (.pointer (some ⟨w.heap.size, 0, none⟩)), isV (.int .i64 x), isV (.int .i64 Wd), isV (.bool true), isV (.bool true), isV (.bool true), isV (.pointer (some ⟨w.heap.size, 1, none⟩)), isV (.int .i64 y), isV (.bool true), isV (.bool true), isV (.bool true), isV (.pointer (some ⟨w.heap.size, 1, none⟩)), isV (.int .i64 y), isV (.int .i64 Ht), isV (.bool true), isV (.bool true), isV (.bool true), isV (.pointer (some ⟨w.heap.size, 2, none⟩)), isV (.int .i64 t), isV (.bool true), isV (.bool true), isV (.bool true), isV (.pointer (some ⟨w.heap.size, 2, none⟩)), isV (.int .i64 t), isV (.bool false), isV (.bool false), isV (.bool false), isV undef, isV undef, isV undef, isV undef, isV undef, isV undef, isV undef, isV undef, isV undef, isV (.bool false)] (by rfl) alloc_Z ?_ ?_
            · intro qi qh qA aa wx hb hs hd
              match qi, qh, qA with
              | 0, _, _ => exact .inl ⟨rfl, ⟨_, op_faN0 rfl (hs 5 rfl), rfl⟩⟩
              | 1, _, _ => exact .inl ⟨rfl, op_ldI rfl rfl (hd 0 rfl) ((HE.out.to hb).cell 0 0 rfl rfl)⟩
              | 2, _, _ => exact .inl ⟨rfl, pure_b (bool_eq K0.out) (⟨_, op_geqI rfl (hd 1 rfl) rfl, rfl⟩)⟩
              | 3, _, _ => exact .inl ⟨rfl, op_mv rfl (hd 2 rfl)⟩
              | 4, _, _ => exact .inl ⟨⟨rfl, .inl (hd 3 rfl)⟩, ⟨_, op_faN0 rfl (hs 5 rfl), rfl⟩⟩
              | 5, _, _ => exact .inl ⟨⟨rfl, .inl (hd 3 rfl)⟩, op_ldI rfl rfl (hd 4 rfl) ((HE.out.to hb).cell 0 0 rfl rfl)⟩
              | 6, _, _ => exact .inl ⟨⟨rfl, .inl (hd 3 rfl)⟩, op_mv rfl (hs 0 rfl)⟩
              | 7, _, _ => exact .inl ⟨⟨rfl, .inl (hd 3 rfl)⟩, pure_b (bool_eq K1.out) (⟨_, op_lssI rfl (hd 5 rfl) (hd 6 rfl), rfl⟩)⟩
              | 8, _, _ => exact .inl ⟨rfl, ⟨_, op_pickT rfl (hd 3 rfl) (hd 7 rfl), rfl⟩⟩
              | 9, _, _ => exact .inl ⟨rfl, op_mv rfl (hd 8 rfl)⟩
              | 10, _, _ => exact .inl ⟨⟨rfl, .inl (hd 9 rfl)⟩, ⟨_, op_faN1 rfl (hs 5 rfl), rfl⟩⟩
              | 11, _, _ => exact .inl ⟨⟨rfl, .inl (hd 9 rfl)⟩, op_ldI rfl rfl (hd 10 rfl) ((HE.out.to hb).cell 0 1 rfl rfl)⟩
              | 12, _, _ => exact .inl ⟨⟨rfl, .inl (hd 9 rfl)⟩, pure_b (bool_eq K2.out) (⟨_, op_geqI rfl (hd 11 rfl) rfl, rfl⟩)⟩
              | 13, _, _ => exact .inl ⟨rfl, ⟨_, op_pickT rfl (hd 9 rfl) (hd 12 rfl), rfl⟩⟩
              | 14, _, _ => exact .inl ⟨rfl, op_mv rfl (hd 13 rfl)⟩
              | 15, _, _ => exact .inl ⟨⟨rfl, .inl (hd 14 rfl)⟩, ⟨_, op_faN1 rfl (hs 5 rfl), rfl⟩⟩
              | 16, _, _ => exact .inl ⟨⟨rfl, .inl (hd 14 rfl)⟩, op_ldI rfl rfl (hd 15 rfl) ((HE.out.to hb).cell 0 1 rfl rfl)⟩
              | 17, _, _ => exact .inl ⟨⟨rfl, .inl (hd 14 rfl)⟩, op_mv rfl (hs 1 rfl)⟩
              | 18, _, _ => exact .inl ⟨⟨rfl, .inl (hd 14 rfl)⟩, pure_b (bool_eq K3.out) (⟨_, op_lssI rfl (hd 16 rfl) (hd 17 rfl), rfl⟩)⟩
              | 19, _, _ => exact .inl ⟨rfl, ⟨_, op_pickT rfl (hd 14 rfl) (hd 18 rfl), rfl⟩⟩
              | 20, _, _ => exact .inl ⟨rfl, op_mv rfl (hd 19 rfl)⟩
              | 21, _, _ => exact .inl ⟨⟨rfl, .inl (hd 20 rfl)⟩, ⟨_, op_faN2 rfl (hs 5 rfl), rfl⟩⟩
              | 22, _, _ => exact .inl ⟨⟨rfl, .inl (hd 20 rfl)⟩, op_ldI rfl rfl (hd 21 rfl) ((HE.out.to hb).cell 0 2 rfl rfl)⟩
              | 23, _, _ => exact .inl ⟨⟨rfl, .inl (hd 20 rfl)⟩, pure_b (bool_eq K4.out) (⟨_, op_geqI rfl (hd 22 rfl) rfl, rfl⟩)⟩
              | 24, _, _ => exact .inl ⟨rfl, ⟨_, op_pickT rfl (hd 20 rfl) (hd 23 rfl), rfl⟩⟩
              | 25, _, _ => exact .inl ⟨rfl, op_mv rfl (hd 24 rfl)⟩
              | 26, _, _ => exact .inl ⟨⟨rfl, .inl (hd 25 rfl)⟩, ⟨_, op_faN2 rfl (hs 5 rfl), rfl⟩⟩
              | 27, _, _ => exact .inl ⟨⟨rfl, .inl (hd 25 rfl)⟩, op_ldI rfl rfl (hd 26 rfl) ((HE.out.to hb).cell 0 2 rfl rfl)⟩
              | 28, _, _ => exact .inl ⟨⟨rfl, .inl (hd 25 rfl)⟩, pure_b (bool_eq K5.out) (⟨_, op_leqI rfl (hd 27 rfl) rfl, rfl⟩)⟩
              | 29, _, _ => exact .inl ⟨rfl, ⟨_, op_pickT rfl (hd 25 rfl) (hd 28 rfl), rfl⟩⟩
              | 30, _, _ => exact .inl ⟨rfl, op_mv rfl (hd 29 rfl)⟩
              | 31, _, _ => exact .inr ⟨⟨rfl, .inl (hd 30 rfl)⟩, rfl⟩
              | 32, _, _ => exact .inr ⟨⟨rfl, .inl (hd 30 rfl)⟩, rfl⟩
              | 33, _, _ => exact .inr ⟨⟨rfl, .inl (hd 30 rfl)⟩, rfl⟩
              | 34, _, _ => exact .inr ⟨⟨rfl, .inl (hd 30 rfl)⟩, rfl⟩
              | 35, _, _ => exact .inr ⟨⟨rfl, .inr ⟨rfl, hd 34 rfl⟩⟩, rfl⟩
              | 36, _, _ => exact .inr ⟨⟨rfl, .inr ⟨rfl, hd 34 rfl⟩⟩, rfl⟩
              | 37, _, _ => exact .inr ⟨⟨rfl, .inr ⟨rfl, hd 34 rfl⟩⟩, rfl⟩
              | 38, _, _ => exact .inr ⟨⟨rfl, .inr ⟨rfl, hd 34 rfl⟩⟩, rfl⟩
              | 39, _, _ => exact .inr ⟨⟨rfl, .inl (hd 30 rfl)⟩, rfl⟩
              | 40, _, _ => exact .inl ⟨rfl, ⟨_, op_pickF rfl (hd 30 rfl) rfl, rfl⟩⟩
              | qi + 41, h, _ => omega
            intro vs X1 hb hv hal hne
            replace HB := Hd.mk (bel_then HB.out hb)
            replace HE := Hd.mk (HE.out.to hb)
            have e47 : vs 47 = .bool false := hv 40 (by decide) rfl
            simp only [PA, e47]
            clear hv hal hne hb e47
            go_wp2_with fail
            go_ret
            exact ⟨_, rfl, HB.out, rfl⟩
          rw [show alB Wd Ht x y t = false by unfold alB; simp [h0, h1, h2, h3, h4] <;> omega]
          have K4 := Hd.mk (decide_eq_false h4)
          go_enter Try.func19, Try.ntmps19
          go_upto_region 1 with fail
          obtain ⟨W0, hW0⟩ : ∃ W : World, W = w.alloc (.cells #[.int .i64 x, .int .i64 y, .int .i64 t, .bool f] 26) := ⟨_, rfl⟩
          rw [← hW0]
          obtain ⟨he, hb⟩ := env_one hW0
          have HE := Hd.mk he
          have HB := Hd.mk hb
          clear he hb hW0
          refine wp_region_vd 41 [7, 8, 9, 10, 11, 12, 13, 14, 15, 16, 17, 18, 19, 20, 21, 22, 23, 24, 25, 26, 27, 28, 29, 30, 31, 32, 33, 34, 35, 36, 37, 38, 39, 40, 41, 42, 43, 44, 45, 46, 47] [0, 2, 3, 4, 6, 7, 8, 9, 10, 12, 13, 14, 15, 17, 18, 19, 20, 21, 23, 24, 25, 29, 30, 40] [] 84 [.int .i64 0, .int .i64 0] [isV (.pointer (some ⟨w.heap.size, 0, none⟩)), isV (.int .i64 x), isV (.bool true), isV (.bool true), isV (.pointer (some ⟨w.heap.size, 0, none⟩)), isV (.int .i64 x), isV (.int .i64 Wd), isV (.bool true), isV (.bool true), isV (.bool true), isV (.pointer (some ⟨w.heap.size, 1, none⟩)), isV (.int .i64 y), isV (.bool true), isV (.bool true), isV (.bool true), isV (.pointer (some ⟨w.heap.size, 1, none⟩)), isV (.int .i64 y), isV (.int .i64 Ht), isV (.bool true), isV (.bool true), isV (.bool true), isV (.pointer (some ⟨w.heap.size, 2, none⟩)), isV (.int .i64 t), isV (.bool false), isV (.bool false), isV (.bool false), isV undef, isV undef, isV undef, isV (.bool false), isV (.bool false), isV undef, isV undef, isV undef, isV undef, isV undef, isV undef, isV undef, isV undef, isV undef, isV (.bool false)] (by rfl) alloc_Z ?_ ?_
          · intro qi qh qA aa wx hb hs hd
            match qi, qh, qA with
            | 0, _, _ => exact .inl ⟨rfl, ⟨_, op_faN0 rfl (hs 5 rfl), rfl⟩⟩
            | 1, _, _ => exact .inl ⟨rfl, op_ldI rfl rfl (hd 0 rfl) ((HE.out.to hb).cell 0 0 rfl rfl)⟩
            | 2, _, _ => exact .inl ⟨rfl, pure_b (bool_eq K0.out) (⟨_, op_geqI rfl (hd 1 rfl) rfl, rfl⟩)⟩
            | 3, _, _ => exact .inl ⟨rfl, op_mv rfl (hd 2 rfl)⟩
            | 4, _, _ => exact .inl ⟨⟨rfl, .inl (hd 3 rfl)⟩, ⟨_, op_faN0 rfl (hs 5 rfl), rfl⟩⟩
            | 5, _, _ => exact .inl ⟨⟨rfl, .inl (hd 3 rfl)⟩, op_ldI rfl rfl (hd 4 rfl) ((HE.out.to hb).cell 0 0 rfl rfl)⟩
            | 6, _, _ => exact .inl ⟨⟨rfl, .inl (hd 3 rfl)⟩, op_mv rfl (hs 0 rfl)⟩
            | 7, _, _ => exact .inl ⟨⟨rfl, .inl (hd 3 rfl)⟩, pure_b (bool_eq K1.out) (⟨_, op_lssI rfl (hd 5 rfl) (hd 6 rfl), rfl⟩)⟩
            | 8, _, _ => exact .inl ⟨rfl, ⟨_, op_pickT rfl (hd 3 rfl) (hd 7 rfl), rfl⟩⟩
            | 9, _, _ => exact .inl ⟨rfl, op_mv rfl (hd 8 rfl)⟩
            | 10, _, _ => exact .inl ⟨⟨rfl, .inl (hd 9 rfl)⟩, ⟨_, op_faN1 rfl (hs 5 rfl), rfl⟩⟩
            | 11, _, _ => exact .inl ⟨⟨rfl, .inl (hd 9 rfl)⟩, op_ldI rfl rfl (hd 10 rfl) ((HE.out.to hb).cell 0 1 rfl rfl)⟩
            | 12, _, _ => exact .inl ⟨⟨rfl, .inl (hd 9 rfl)⟩, pure_b (bool_eq K2.out) (⟨_, op_geqI rfl (hd 11 rfl) rfl, rfl⟩)⟩
            | 13, _, _ => exact .inl ⟨rfl, ⟨_, op_pickT rfl (hd 9 rfl) (hd 12 rfl), rfl⟩⟩
            | 14, _, _ => exact .inl ⟨rfl, op_mv rfl (hd 13 rfl)⟩
            | 15, _, _ => exact .inl ⟨⟨rfl, .inl (hd 14 rfl)⟩, ⟨_, op_faN1 rfl (hs 5 rfl), rfl⟩⟩
            | 16, _, _ => exact .inl ⟨⟨rfl, .inl (hd 14 rfl)⟩, op_ldI rfl rfl (hd 15 rfl) ((HE.out.to hb).cell 0 1 rfl rfl)⟩
            | 17, _, _ => exact .inl ⟨⟨rfl, .inl (hd 14 rfl)⟩, op_mv rfl (hs 1 rfl)⟩
            | 18, _, _ => exact .inl ⟨⟨rfl, .inl (hd 14 rfl)⟩, pure_b (bool_eq K3.out) (⟨_, op_lssI rfl (hd 16 rfl) (hd 17 rfl), rfl⟩)⟩
            | 19, _, _ => exact .inl ⟨rfl, ⟨_, op_pickT rfl (hd 14 rfl) (hd 18 rfl), rfl⟩⟩
            | 20, _, _ => exact .inl ⟨rfl, op_mv rfl (hd 19 rfl)⟩
            | 21, _, _ => exact .inl ⟨⟨rfl, .inl (hd 20 rfl)⟩, ⟨_, op_faN2 rfl (hs 5 rfl), rfl⟩⟩
            | 22, _, _ => exact .inl ⟨⟨rfl, .inl (hd 20 rfl)⟩, op_ldI rfl rfl (hd 21 rfl) ((HE.out.to hb).cell 0 2 rfl rfl)⟩
            | 23, _, _ => exact .inl ⟨⟨rfl, .inl (hd 20 rfl)⟩, pure_b (bool_eq K4.out) (⟨_, op_geqI rfl (hd 22 rfl) rfl, rfl⟩)⟩
            | 24, _, _ => exact .inl ⟨rfl, ⟨_, op_pickT rfl (hd 20 rfl) (hd 23 rfl), rfl⟩⟩
            | 25, _, _ => exact .inl ⟨rfl, op_mv rfl (hd 24 rfl)⟩
            | 26, _, _ => exact .inr ⟨⟨rfl, .inl (hd 25 rfl)⟩, rfl⟩
            | 27, _, _ => exact .inr ⟨⟨rfl, .inl (hd 25 rfl)⟩, rfl⟩
            | 28, _, _ => exact .inr ⟨⟨rfl, .inl (hd 25 rfl)⟩, rfl⟩
            | 29, _, _ => exact .inl ⟨rfl, ⟨_, op_pickF rfl (hd 25 rfl) rfl, rfl⟩⟩
            | 30, _, _ => exact .inl ⟨rfl, op_mv rfl (hd 29 rfl)⟩
            | 31, _, _ => exact .inr ⟨⟨rfl, .inl (hd 30 rfl)⟩, rfl⟩
            | 32, _, _ => exact .inr ⟨⟨rfl, .inl (hd 30 rfl)⟩, rfl⟩
            | 33, _, _ => exact .inr ⟨⟨rfl, .inl (hd 30 rfl)⟩, rfl⟩
            | 34, _, _ => exact .inr ⟨⟨rfl, .inl (hd 30 rfl)⟩, rfl⟩
            | 35, _, _ => exact .inr ⟨⟨rfl, .inr ⟨rfl, hd 34 rfl⟩⟩, rfl⟩
            | 36, _, _ => exact .inr ⟨⟨rfl, .inr ⟨rfl, hd 34 rfl⟩⟩, rfl⟩
            | 37, _, _ => exact .inr ⟨⟨rfl, .inr ⟨rfl, hd 34 rfl⟩⟩, rfl⟩
            | 38, _, _ => exact .inr ⟨⟨rfl, .inr ⟨rfl, hd 34 rfl⟩⟩, rfl⟩
            | 39, _, _ => exact .inr ⟨⟨rfl, .inl (hd 30 rfl)⟩, rfl⟩
            | 40, _, _ => exact .inl ⟨rfl, ⟨_, op_pickF rfl (hd 30 rfl) rfl, rfl⟩⟩
            | qi + 41, h, _ => omega
          intro vs X1 hb hv hal hne
          replace HB := Hd.mk (bel_then HB.out hb)
          replace HE := Hd.mk (HE.out.to hb)
          have e47 : vs 47 = .bool false := hv 40 (by decide) rfl
          simp only [PA, e47]
          clear hv hal hne hb e47
          go_wp2_with fail
          go_ret
          exact ⟨_, rfl, HB.out, rfl⟩
        rw [show alB Wd Ht x y t = false by unfold alB; simp [h0, h1, h2, h3] <;> omega]
        have K3 := Hd.mk (decide_eq_false h3)
        go_enter Try.func19, Try.ntmps19
        go_upto_region 1 with fail
        obtain ⟨W0, hW0⟩ : ∃ W : World, W = w.alloc (.cells #[.int .i64 x, .int .i64 y, .int .i64 t, .bool f] 26) := ⟨_, rfl⟩
        rw [← hW0]
        obtain ⟨he, hb⟩ := env_one hW0
        have HE := Hd.mk he
        have HB := Hd.mk hb
        clear he hb hW0
        refine wp_region_vd 41 [7, 8, 9, 10, 11, 12, 13, 14, 15, 16, 17, 18, 19, 20, 21, 22, 23, 24, 25, 26, 27, 28, 29, 30, 31, 32, 33, 34, 35, 36, 37, 38, 39, 40, 41, 42, 43, 44, 45, 46, 47] [0, 2, 3, 4, 6, 7, 8, 9, 10, 12, 13, 14, 15, 17, 18, 19, 20, 24, 25, 29, 30, 40] [] 84 [.int .i64 0, .int .i64 0] [isV (.pointer (some ⟨w.heap.size, 0, none⟩)), isV (.int .i64 x), isV (.bool true), isV (.bool true), isV (.pointer (some ⟨w.heap.size, 0, none⟩)), isV (.int .i64 x), isV (.int .i64 Wd), isV (.bool true), isV (.bool true), isV (.bool true), isV (.pointer (some ⟨w.heap.size, 1, none⟩)), isV (.int .i64 y), isV (.bool true), isV (.bool true), isV (.bool true), isV (.pointer (some ⟨w.heap.size, 1, none⟩)), isV (.int .i64 y), isV (.int .i64 Ht), isV (.bool false), isV (.bool false), isV (.bool false), isV undef, isV undef, isV undef, isV (.bool false), isV (.bool false), isV undef, isV undef, isV undef, isV (.bool false), isV (.bool false), isV undef, isV undef, isV undef, isV undef, isV undef, isV undef, isV undef, isV undef, isV undef, isV (.bool false)] (by rfl) alloc_Z ?_ ?_
        · intro qi qh qA aa wx hb hs hd
          match qi, qh, qA with
          | 0, _, _ => exact .inl ⟨rfl, ⟨_, op_faN0 rfl (hs 5 rfl), rfl⟩⟩
          | 1, _, _ => exact .inl ⟨rfl, op_ldI rfl rfl (hd 0 rfl) ((HE.out.to hb).cell 0 0 rfl rfl)⟩
          | 2, _, _ => exact .inl ⟨rfl, pure_b (bool_eq K0.out) (⟨_, op_geqI rfl (hd 1 rfl) rfl, rfl⟩)⟩
          | 3, _, _ => exact .inl ⟨rfl, op_mv rfl (hd 2 rfl)⟩
          | 4, _, _ => exact .inl ⟨⟨rfl, .inl (hd 3 rfl)⟩, ⟨_, op_faN0 rfl (hs 5 rfl), rfl⟩⟩
          | 5, _, _ => exact .inl ⟨⟨rfl, .inl (hd 3 rfl)⟩, op_ldI rfl rfl (hd 4 rfl) ((HE.out.to hb).cell 0 0 rfl rfl)⟩
          | 6, _, _ => exact .inl ⟨⟨rfl, .inl (hd 3 rfl)⟩, op_mv rfl (hs 0 rfl)⟩
          | 7, _, _ => exact .inl ⟨⟨rfl, .inl (hd 3 rfl)⟩, pure_b (bool_eq K1.out) (⟨_, op_lssI rfl (hd 5 rfl) (hd 6 rfl), rfl⟩)⟩
          | 8, _, _ => exact .inl ⟨rfl, ⟨_, op_pickT rfl (hd 3 rfl) (hd 7 rfl), rfl⟩⟩
          | 9, _, _ => exact .inl ⟨rfl, op_mv rfl (hd 8 rfl)⟩
          | 10, _, _ => exact .inl ⟨⟨rfl, .inl (hd 9 rfl)⟩, ⟨_, op_faN1 rfl (hs 5 rfl), rfl⟩⟩
          | 11, _, _ => exact .inl ⟨⟨rfl, .inl (hd 9 rfl)⟩, op_ldI rfl rfl (hd 10 rfl) ((HE.out.to hb).cell 0 1 rfl rfl)⟩
          | 12, _, _ => exact .inl ⟨⟨rfl, .inl (hd 9 rfl)⟩, pure_b (bool_eq K2.out) (⟨_, op_geqI rfl (hd 11 rfl) rfl, rfl⟩)⟩
          | 13, _, _ => exact .inl ⟨rfl, ⟨_, op_pickT rfl (hd 9 rfl) (hd 12 rfl), rfl⟩⟩
          | 14, _, _ => exact .inl ⟨rfl, op_mv rfl (hd 13 rfl)⟩
          | 15, _, _ => exact .inl ⟨⟨rfl, .inl (hd 14 rfl)⟩, ⟨_, op_faN1 rfl (hs 5 rfl), rfl⟩⟩
          | 16, _, _ => exact .inl ⟨⟨rfl, .inl (hd 14 rfl)⟩, op_ldI rfl rfl (hd 15 rfl) ((HE.out.to hb).cell 0 1 rfl rfl)⟩
          | 17, _, _ => exact .inl ⟨⟨rfl, .inl (hd 14 rfl)⟩, op_mv rfl (hs 1 rfl)⟩
          | 18, _, _ => exact .inl ⟨⟨rfl, .inl (hd 14 rfl)⟩, pure_b (bool_eq K3.out) (⟨_, op_lssI rfl (hd 16 rfl) (hd 17 rfl), rfl⟩)⟩
          | 19, _, _ => exact .inl ⟨rfl, ⟨_, op_pickT rfl (hd 14 rfl) (hd 18 rfl), rfl⟩⟩
          | 20, _, _ => exact .inl ⟨rfl, op_mv rfl (hd 19 rfl)⟩
          | 21, _, _ => exact .inr ⟨⟨rfl, .inl (hd 20 rfl)⟩, rfl⟩
          | 22, _, _ => exact .inr ⟨⟨rfl, .inl (hd 20 rfl)⟩, rfl⟩
          | 23, _, _ => exact .inr ⟨⟨rfl, .inl (hd 20 rfl)⟩, rfl⟩
          | 24, _, _ => exact .inl ⟨rfl, ⟨_, op_pickF rfl (hd 20 rfl) rfl, rfl⟩⟩
          | 25, _, _ => exact .inl ⟨rfl, op_mv rfl (hd 24 rfl)⟩
          | 26, _, _ => exact .inr ⟨⟨rfl, .inl (hd 25 rfl)⟩, rfl⟩
          | 27, _, _ => exact .inr ⟨⟨rfl, .inl (hd 25 rfl)⟩, rfl⟩
          | 28, _, _ => exact .inr ⟨⟨rfl, .inl (hd 25 rfl)⟩, rfl⟩
          | 29, _, _ => exact .inl ⟨rfl, ⟨_, op_pickF rfl (hd 25 rfl) rfl, rfl⟩⟩
          | 30, _, _ => exact .inl ⟨rfl, op_mv rfl (hd 29 rfl)⟩
          | 31, _, _ => exact .inr ⟨⟨rfl, .inl (hd 30 rfl)⟩, rfl⟩
          | 32, _, _ => exact .inr ⟨⟨rfl, .inl (hd 30 rfl)⟩, rfl⟩
          | 33, _, _ => exact .inr ⟨⟨rfl, .inl (hd 30 rfl)⟩, rfl⟩
          | 34, _, _ => exact .inr ⟨⟨rfl, .inl (hd 30 rfl)⟩, rfl⟩
          | 35, _, _ => exact .inr ⟨⟨rfl, .inr ⟨rfl, hd 34 rfl⟩⟩, rfl⟩
          | 36, _, _ => exact .inr ⟨⟨rfl, .inr ⟨rfl, hd 34 rfl⟩⟩, rfl⟩
          | 37, _, _ => exact .inr ⟨⟨rfl, .inr ⟨rfl, hd 34 rfl⟩⟩, rfl⟩
          | 38, _, _ => exact .inr ⟨⟨rfl, .inr ⟨rfl, hd 34 rfl⟩⟩, rfl⟩
          | 39, _, _ => exact .inr ⟨⟨rfl, .inl (hd 30 rfl)⟩, rfl⟩
          | 40, _, _ => exact .inl ⟨rfl, ⟨_, op_pickF rfl (hd 30 rfl) rfl, rfl⟩⟩
          | qi + 41, h, _ => omega
        intro vs X1 hb hv hal hne
        replace HB := Hd.mk (bel_then HB.out hb)
        replace HE := Hd.mk (HE.out.to hb)
        have e47 : vs 47 = .bool false := hv 40 (by decide) rfl
        simp only [PA, e47]
        clear hv hal hne hb e47
        go_wp2_with fail
        go_ret
        exact ⟨_, rfl, HB.out, rfl⟩
      rw [show alB Wd Ht x y t = false by unfold alB; simp [h0, h1, h2] <;> omega]
      have K2 := Hd.mk (decide_eq_false h2)
      go_enter Try.func19, Try.ntmps19
      go_upto_region 1 with fail
      obtain ⟨W0, hW0⟩ : ∃ W : World, W = w.alloc (.cells #[.int .i64 x, .int .i64 y, .int .i64 t, .bool f] 26) := ⟨_, rfl⟩
      rw [← hW0]
      obtain ⟨he, hb⟩ := env_one hW0
      have HE := Hd.mk he
      have HB := Hd.mk hb
      clear he hb hW0
      refine wp_region_vd 41 [7, 8, 9, 10, 11, 12, 13, 14, 15, 16, 17, 18, 19, 20, 21, 22, 23, 24, 25, 26, 27, 28, 29, 30, 31, 32, 33, 34, 35, 36, 37, 38, 39, 40, 41, 42, 43, 44, 45, 46, 47] [0, 2, 3, 4, 6, 7, 8, 9, 10, 12, 13, 14, 19, 20, 24, 25, 29, 30, 40] [] 84 [.int .i64 0, .int .i64 0] [isV (.pointer (some ⟨w.heap.size, 0, none⟩)), isV (.int .i64 x), isV (.bool true), isV (.bool true), isV (.pointer (some ⟨w.heap.size, 0, none⟩)), isV (.int .i64 x), isV (.int .i64 Wd), isV (.bool true), isV (.bool true), isV (.bool true), isV (.pointer (some ⟨w.heap.size, 1, none⟩)), isV (.int .i64 y), isV (.bool false), isV (.bool false), isV (.bool false), isV undef, isV undef, isV undef, isV undef, isV (.bool false), isV (.bool false), isV undef, isV undef, isV undef, isV (.bool false), isV (.bool false), isV undef, isV undef, isV undef, isV (.bool false), isV (.bool false), isV undef, isV undef, isV undef, isV undef, isV undef, isV undef, isV undef, isV undef, isV undef, isV (.bool false)] (by rfl) alloc_Z ?_ ?_
      · intro qi qh qA aa wx hb hs hd
        match qi, qh, qA with
        | 0, _, _ => exact .inl ⟨rfl, ⟨_, op_faN0 rfl (hs 5 rfl), rfl⟩⟩
        | 1, _, _ => exact .inl ⟨rfl, op_ldI rfl rfl (hd 0 rfl) ((HE.out.to hb).cell 0 0 rfl rfl)⟩
        | 2, _, _ => exact .inl ⟨rfl, pure_b (bool_eq K0.out) (⟨_, op_geqI rfl (hd 1 rfl) rfl, rfl⟩)⟩
        | 3, _, _ => exact .inl ⟨rfl, op_mv rfl (hd 2 rfl)⟩
        | 4, _, _ => exact .inl ⟨⟨rfl, .inl (hd 3 rfl)⟩, ⟨_, op_faN0 rfl (hs 5 rfl), rfl⟩⟩
        | 5, _, _ => exact .inl ⟨⟨rfl, .inl (hd 3 rfl)⟩, op_ldI rfl rfl (hd 4 rfl) ((HE.out.to hb).cell 0 0 rfl rfl)⟩
        | 6, _, _ => exact .inl ⟨⟨rfl, .inl (hd 3 rfl)⟩, op_mv rfl (hs 0 rfl)⟩
        | 7, _, _ => exact .inl ⟨⟨rfl, .inl (hd 3 rfl)⟩, pure_b (bool_eq K1.out) (⟨_, op_lssI rfl (hd 5 rfl) (hd 6 rfl), rfl⟩)⟩
        | 8, _, _ => exact .inl ⟨rfl, ⟨_, op_pickT rfl (hd 3 rfl) (hd 7 rfl), rfl⟩⟩
        | 9, _, _ => exact .inl ⟨rfl, op_mv rfl (hd 8 rfl)⟩
        | 10, _, _ => exact .inl ⟨⟨rfl, .inl (hd 9 rfl)⟩, ⟨_, op_faN1 rfl (hs 5 rfl), rfl⟩⟩
        | 11, _, _ => exact .inl ⟨⟨rfl, .inl (hd 9 rfl)⟩, op_ldI rfl rfl (hd 10 rfl) ((HE.out.to hb).cell 0 1 rfl rfl)⟩
        | 12, _, _ => exact .inl ⟨⟨rfl, .inl (hd 9 rfl)⟩, pure_b (bool_eq K2.out) (⟨_, op_geqI rfl (hd 11 rfl) rfl, rfl⟩)⟩
        | 13, _, _ => exact .inl ⟨rfl, ⟨_, op_pickT rfl (hd 9 rfl) (hd 12 rfl), rfl⟩⟩
        | 14, _, _ => exact .inl ⟨rfl, op_mv rfl (hd 13 rfl)⟩
        | 15, _, _ => exact .inr ⟨⟨rfl, .inl (hd 14 rfl)⟩, rfl⟩
        | 16, _, _ => exact .inr ⟨⟨rfl, .inl (hd 14 rfl)⟩, rfl⟩
        | 17, _, _ => exact .inr ⟨⟨rfl, .inl (hd 14 rfl)⟩, rfl⟩
        | 18, _, _ => exact .inr ⟨⟨rfl, .inl (hd 14 rfl)⟩, rfl⟩
        | 19, _, _ => exact .inl ⟨rfl, ⟨_, op_pickF rfl (hd 14 rfl) rfl, rfl⟩⟩
        | 20, _, _ => exact .inl ⟨rfl, op_mv rfl (hd 19 rfl)⟩
        | 21, _, _ => exact .inr ⟨⟨rfl, .inl (hd 20 rfl)⟩, rfl⟩
        | 22, _, _ => exact .inr ⟨⟨rfl, .inl (hd 20 rfl)⟩, rfl⟩
        | 23, _, _ => exact .inr ⟨⟨rfl, .inl (hd 20 rfl)⟩, rfl⟩
        | 24, _, _ => exact .inl ⟨rfl, ⟨_, op_pickF rfl (hd 20 rfl) rfl, rfl⟩⟩
        | 25, _, _ => exact .inl ⟨rfl, op_mv rfl (hd 24 rfl)⟩
        | 26, _, _ => exact .inr ⟨⟨rfl, .inl (hd 25 rfl)⟩, rfl⟩
        | 27, _, _ => exact .inr ⟨⟨rfl, .inl (hd 25 rfl)⟩, rfl⟩
        | 28, _, _ => exact .inr ⟨⟨rfl, .inl (hd 25 rfl)⟩, rfl⟩
        | 29, _, _ => exact .inl ⟨rfl, ⟨_, op_pickF rfl (hd 25 rfl) rfl, rfl⟩⟩
        | 30, _, _ => exact .inl ⟨rfl, op_mv rfl (hd 29 rfl)⟩
        | 31, _, _ => exact .inr ⟨⟨rfl, .inl (hd 30 rfl)⟩, rfl⟩
        | 32, _, _ => exact .inr ⟨⟨rfl, .inl (hd 30 rfl)⟩, rfl⟩
        | 33, _, _ => exact .inr ⟨⟨rfl, .inl (hd 30 rfl)⟩, rfl⟩
        | 34, _, _ => exact .inr ⟨⟨rfl, .inl (hd 30 rfl)⟩, rfl⟩
        | 35, _, _ => exact .inr ⟨⟨rfl, .inr ⟨rfl, hd 34 rfl⟩⟩, rfl⟩
        | 36, _, _ => exact .inr ⟨⟨rfl, .inr ⟨rfl, hd 34 rfl⟩⟩, rfl⟩
        | 37, _, _ => exact .inr ⟨⟨rfl, .inr ⟨rfl, hd 34 rfl⟩⟩, rfl⟩
        | 38, _, _ => exact .inr ⟨⟨rfl, .inr ⟨rfl, hd 34 rfl⟩⟩, rfl⟩
        | 39, _, _ => exact .inr ⟨⟨rfl, .inl (hd 30 rfl)⟩, rfl⟩
        | 40, _, _ => exact .inl ⟨rfl, ⟨_, op_pickF rfl (hd 30 rfl) rfl, rfl⟩⟩
        | qi + 41, h, _ => omega
      intro vs X1 hb hv hal hne
      replace HB := Hd.mk (bel_then HB.out hb)
      replace HE := Hd.mk (HE.out.to hb)
      have e47 : vs 47 = .bool false := hv 40 (by decide) rfl
      simp only [PA, e47]
      clear hv hal hne hb e47
      go_wp2_with fail
      go_ret
      exact ⟨_, rfl, HB.out, rfl⟩
    rw [show alB Wd Ht x y t = false by unfold alB; simp [h0, h1] <;> omega]
    have K1 := Hd.mk (decide_eq_false h1)
    go_enter Try.func19, Try.ntmps19
    go_upto_region 1 with fail
    obtain ⟨W0, hW0⟩ : ∃ W : World, W = w.alloc (.cells #[.int .i64 x, .int .i64 y, .int .i64 t, .bool f] 26) := ⟨_, rfl⟩
    rw [← hW0]
    obtain ⟨he, hb⟩ := env_one hW0
    have HE := Hd.mk he
    have HB := Hd.mk hb
    clear he hb hW0
    refine wp_region_vd 41 [7, 8, 9, 10, 11, 12, 13, 14, 15, 16, 17, 18, 19, 20, 21, 22, 23, 24, 25, 26, 27, 28, 29, 30, 31, 32, 33, 34, 35, 36, 37, 38, 39, 40, 41, 42, 43, 44, 45, 46, 47] [0, 2, 3, 4, 6, 7, 8, 9, 13, 14, 19, 20, 24, 25, 29, 30, 40] [] 84 [.int .i64 0, .int .i64 0] [isV (.pointer (some ⟨w.heap.size, 0, none⟩)), isV (.int .i64 x), isV (.bool true), isV (.bool true), isV (.pointer (some ⟨w.heap.size, 0, none⟩)), isV (.int .i64 x), isV (.int .i64 Wd), isV (.bool false), isV (.bool false), isV (.bool false), isV undef, isV undef, isV undef, isV (.bool false), isV (.bool false), isV undef, isV undef, isV undef, isV undef, isV (.bool false), isV (.bool false), isV undef, isV undef, isV undef, isV (.bool false), isV (.bool false), isV undef, isV undef, isV undef, isV (.bool false), isV (.bool false), isV undef, isV undef, isV undef, isV undef, isV undef, isV undef, isV undef, isV undef, isV undef, isV (.bool false)] (by rfl) alloc_Z ?_ ?_
    · intro qi qh qA aa wx hb hs hd
      match qi, qh, qA with
      | 0, _, _ => exact .inl ⟨rfl, ⟨_, op_faN0 rfl (hs 5 rfl), rfl⟩⟩
      | 1, _, _ => exact .inl ⟨rfl, op_ldI rfl rfl (hd 0 rfl) ((HE.out.to hb).cell 0 0 rfl rfl)⟩
      | 2, _, _ => exact .inl ⟨rfl, pure_b (bool_eq K0.out) (⟨_, op_geqI rfl (hd 1 rfl) rfl, rfl⟩)⟩
      | 3, _, _ => exact .inl ⟨rfl, op_mv rfl (hd 2 rfl)⟩
      | 4, _, _ => exact .inl ⟨⟨rfl, .inl (hd 3 rfl)⟩, ⟨_, op_faN0 rfl (hs 5 rfl), rfl⟩⟩
      | 5, _, _ => exact .inl ⟨⟨rfl, .inl (hd 3 rfl)⟩, op_ldI rfl rfl (hd 4 rfl) ((HE.out.to hb).cell 0 0 rfl rfl)⟩
      | 6, _, _ => exact .inl ⟨⟨rfl, .inl (hd 3 rfl)⟩, op_mv rfl (hs 0 rfl)⟩
      | 7, _, _ => exact .inl ⟨⟨rfl, .inl (hd 3 rfl)⟩, pure_b (bool_eq K1.out) (⟨_, op_lssI rfl (hd 5 rfl) (hd 6 rfl), rfl⟩)⟩
      | 8, _, _ => exact .inl ⟨rfl, ⟨_, op_pickT rfl (hd 3 rfl) (hd 7 rfl), rfl⟩⟩
      | 9, _, _ => exact .inl ⟨rfl, op_mv rfl (hd 8 rfl)⟩
      | 10, _, _ => exact .inr ⟨⟨rfl, .inl (hd 9 rfl)⟩, rfl⟩
      | 11, _, _ => exact .inr ⟨⟨rfl, .inl (hd 9 rfl)⟩, rfl⟩
      | 12, _, _ => exact .inr ⟨⟨rfl, .inl (hd 9 rfl)⟩, rfl⟩
      | 13, _, _ => exact .inl ⟨rfl, ⟨_, op_pickF rfl (hd 9 rfl) rfl, rfl⟩⟩
      | 14, _, _ => exact .inl ⟨rfl, op_mv rfl (hd 13 rfl)⟩
      | 15, _, _ => exact .inr ⟨⟨rfl, .inl (hd 14 rfl)⟩, rfl⟩
      | 16, _, _ => exact .inr ⟨⟨rfl, .inl (hd 14 rfl)⟩, rfl⟩
      | 17, _, _ => exact .inr ⟨⟨rfl, .inl (hd 14 rfl)⟩, rfl⟩
      | 18, _, _ => exact .inr ⟨⟨rfl, .inl (hd 14 rfl)⟩, rfl⟩
      | 19, _, _ => exact .inl ⟨rfl, ⟨_, op_pickF rfl (hd 14 rfl) rfl, rfl⟩⟩
      | 20, _, _ => exact .inl ⟨rfl, op_mv rfl (hd 19 rfl)⟩
      | 21, _, _ => exact .inr ⟨⟨rfl, .inl (hd 20 rfl)⟩, rfl⟩
      | 22, _, _ => exact .inr ⟨⟨rfl, .inl (hd 20 rfl)⟩, rfl⟩
      | 23, _, _ => exact .inr ⟨⟨rfl, .inl (hd 20 rfl)⟩, rfl⟩
      | 24, _, _ => exact .inl ⟨rfl, ⟨_, op_pickF rfl (hd 20 rfl) rfl, rfl⟩⟩
      | 25, _, _ => exact .inl ⟨rfl, op_mv rfl (hd 24 rfl)⟩
      | 26, _, _ => exact .inr ⟨⟨rfl, .inl (hd 25 rfl)⟩, rfl⟩
      | 27, _, _ => exact .inr ⟨⟨rfl, .inl (hd 25 rfl)⟩, rfl⟩
      | 28, _, _ => exact .inr ⟨⟨rfl, .inl (hd 25 rfl)⟩, rfl⟩
      | 29, _, _ => exact .inl ⟨rfl, ⟨_, op_pickF rfl (hd 25 rfl) rfl, rfl⟩⟩
      | 30, _, _ => exact .inl ⟨rfl, op_mv rfl (hd 29 rfl)⟩
      | 31, _, _ => exact .inr ⟨⟨rfl, .inl (hd 30 rfl)⟩, rfl⟩
      | 32, _, _ => exact .inr ⟨⟨rfl, .inl (hd 30 rfl)⟩, rfl⟩
      | 33, _, _ => exact .inr ⟨⟨rfl, .inl (hd 30 rfl)⟩, rfl⟩
      | 34, _, _ => exact .inr ⟨⟨rfl, .inl (hd 30 rfl)⟩, rfl⟩
      | 35, _, _ => exact .inr ⟨⟨rfl, .inr ⟨rfl, hd 34 rfl⟩⟩, rfl⟩
      | 36, _, _ => exact .inr ⟨⟨rfl, .inr ⟨rfl, hd 34 rfl⟩⟩, rfl⟩
      | 37, _, _ => exact .inr ⟨⟨rfl, .inr ⟨rfl, hd 34 rfl⟩⟩, rfl⟩
      | 38, _, _ => exact .inr ⟨⟨rfl, .inr ⟨rfl, hd 34 rfl⟩⟩, rfl⟩
      | 39, _, _ => exact .inr ⟨⟨rfl, .inl (hd 30 rfl)⟩, rfl⟩
      | 40, _, _ => exact .inl ⟨rfl, ⟨_, op_pickF rfl (hd 30 rfl) rfl, rfl⟩⟩
      | qi + 41, h, _ => omega
    intro vs X1 hb hv hal hne
    replace HB := Hd.mk (bel_then HB.out hb)
    replace HE := Hd.mk (HE.out.to hb)
    have e47 : vs 47 = .bool false := hv 40 (by decide) rfl
    simp only [PA, e47]
    clear hv hal hne hb e47
    go_wp2_with fail
    go_ret
    exact ⟨_, rfl, HB.out, rfl⟩
  rw [show alB Wd Ht x y t = false by unfold alB; simp [h0] <;> omega]
  have K0 := Hd.mk (decide_eq_false h0)
  go_enter Try.func19, Try.ntmps19
  go_upto_region 1 with fail
  obtain ⟨W0, hW0⟩ : ∃ W : World, W = w.alloc (.cells #[.int .i64 x, .int .i64 y, .int .i64 t, .bool f] 26) := ⟨_, rfl⟩
  rw [← hW0]
  obtain ⟨he, hb⟩ := env_one hW0
  have HE := Hd.mk he
  have HB := Hd.mk hb
  clear he hb hW0
  refine wp_region_vd 41 [7, 8, 9, 10, 11, 12, 13, 14, 15, 16, 17, 18, 19, 20, 21, 22, 23, 24, 25, 26, 27, 28, 29, 30, 31, 32, 33, 34, 35, 36, 37, 38, 39, 40, 41, 42, 43, 44, 45, 46, 47] [0, 2, 3, 8, 9, 13, 14, 19, 20, 24, 25, 29, 30, 40] [] 84 [.int .i64 0, .int .i64 0] [isV (.pointer (some ⟨w.heap.size, 0, none⟩)), isV (.int .i64 x), isV (.bool false), isV (.bool false), isV undef, isV undef, isV undef, isV undef, isV (.bool false), isV (.bool false), isV undef, isV undef, isV undef, isV (.bool false), isV (.bool false), isV undef, isV undef, isV undef, isV undef, isV (.bool false), isV (.bool false), isV undef, isV undef, isV undef, isV (.bool false), isV (.bool false), isV undef, isV undef, isV undef, isV (.bool false), isV (.bool false), isV undef, isV undef, isV undef, isV undef, isV undef, isV undef, isV undef, isV undef, isV undef, isV (.bool false)] (by rfl) alloc_Z ?_ ?_
  · intro qi qh qA aa wx hb hs hd
    match qi, qh, qA with
    | 0, _, _ => exact .inl ⟨rfl, ⟨_, op_faN0 rfl (hs 5 rfl), rfl⟩⟩
    | 1, _, _ => exact .inl ⟨rfl, op_ldI rfl rfl (hd 0 rfl) ((HE.out.to hb).cell 0 0 rfl rfl)⟩
    | 2, _, _ => exact .inl ⟨rfl, pure_b (bool_eq K0.out) (⟨_, op_geqI rfl (hd 1 rfl) rfl, rfl⟩)⟩
    | 3, _, _ => exact .inl ⟨rfl, op_mv rfl (hd 2 rfl)⟩
    | 4, _, _ => exact .inr ⟨⟨rfl, .inl (hd 3 rfl)⟩, rfl⟩
    | 5, _, _ => exact .inr ⟨⟨rfl, .inl (hd 3 rfl)⟩, rfl⟩
    | 6, _, _ => exact .inr ⟨⟨rfl, .inl (hd 3 rfl)⟩, rfl⟩
    | 7, _, _ => exact .inr ⟨⟨rfl, .inl (hd 3 rfl)⟩, rfl⟩
    | 8, _, _ => exact .inl ⟨rfl, ⟨_, op_pickF rfl (hd 3 rfl) rfl, rfl⟩⟩
    | 9, _, _ => exact .inl ⟨rfl, op_mv rfl (hd 8 rfl)⟩
    | 10, _, _ => exact .inr ⟨⟨rfl, .inl (hd 9 rfl)⟩, rfl⟩
    | 11, _, _ => exact .inr ⟨⟨rfl, .inl (hd 9 rfl)⟩, rfl⟩
    | 12, _, _ => exact .inr ⟨⟨rfl, .inl (hd 9 rfl)⟩, rfl⟩
    | 13, _, _ => exact .inl ⟨rfl, ⟨_, op_pickF rfl (hd 9 rfl) rfl, rfl⟩⟩
    | 14, _, _ => exact .inl ⟨rfl, op_mv rfl (hd 13 rfl)⟩
    | 15, _, _ => exact .inr ⟨⟨rfl, .inl (hd 14 rfl)⟩, rfl⟩
    | 16, _, _ => exact .inr ⟨⟨rfl, .inl (hd 14 rfl)⟩, rfl⟩
    | 17, _, _ => exact .inr ⟨⟨rfl, .inl (hd 14 rfl)⟩, rfl⟩
    | 18, _, _ => exact .inr ⟨⟨rfl, .inl (hd 14 rfl)⟩, rfl⟩
    | 19, _, _ => exact .inl ⟨rfl, ⟨_, op_pickF rfl (hd 14 rfl) rfl, rfl⟩⟩
    | 20, _, _ => exact .inl ⟨rfl, op_mv rfl (hd 19 rfl)⟩
    | 21, _, _ => exact .inr ⟨⟨rfl, .inl (hd 20 rfl)⟩, rfl⟩
    | 22, _, _ => exact .inr ⟨⟨rfl, .inl (hd 20 rfl)⟩, rfl⟩
    | 23, _, _ => exact .inr ⟨⟨rfl, .inl (hd 20 rfl)⟩, rfl⟩
    | 24, _, _ => exact .inl ⟨rfl, ⟨_, op_pickF rfl (hd 20 rfl) rfl, rfl⟩⟩
    | 25, _, _ => exact .inl ⟨rfl, op_mv rfl (hd 24 rfl)⟩
    | 26, _, _ => exact .inr ⟨⟨rfl, .inl (hd 25 rfl)⟩, rfl⟩
    | 27, _, _ => exact .inr ⟨⟨rfl, .inl (hd 25 rfl)⟩, rfl⟩
    | 28, _, _ => exact .inr ⟨⟨rfl, .inl (hd 25 rfl)⟩, rfl⟩
    | 29, _, _ => exact .inl ⟨rfl, ⟨_, op_pickF rfl (hd 25 rfl) rfl, rfl⟩⟩
    | 30, _, _ => exact .inl ⟨rfl, op_mv rfl (hd 29 rfl)⟩
    | 31, _, _ => exact .inr ⟨⟨rfl, .inl (hd 30 rfl)⟩, rfl⟩
    | 32, _, _ => exact .inr ⟨⟨rfl, .inl (hd 30 rfl)⟩, rfl⟩
    | 33, _, _ => exact .inr ⟨⟨rfl, .inl (hd 30 rfl)⟩, rfl⟩
    | 34, _, _ => exact .inr ⟨⟨rfl, .inl (hd 30 rfl)⟩, rfl⟩
    | 35, _, _ => exact .inr ⟨⟨rfl, .inr ⟨rfl, hd 34 rfl⟩⟩, rfl⟩
    | 36, _, _ => exact .inr ⟨⟨rfl, .inr ⟨rfl, hd 34 rfl⟩⟩, rfl⟩
    | 37, _, _ => exact .inr ⟨⟨rfl, .inr ⟨rfl, hd 34 rfl⟩⟩, rfl⟩
    | 38, _, _ => exact .inr ⟨⟨rfl, .inr ⟨rfl, hd 34 rfl⟩⟩, rfl⟩
    | 39, _, _ => exact .inr ⟨⟨rfl, .inl (hd 30 rfl)⟩, rfl⟩
    | 40, _, _ => exact .inl ⟨rfl, ⟨_, op_pickF rfl (hd 30 rfl) rfl, rfl⟩⟩
    | qi + 41, h, _ => omega
  intro vs X1 hb hv hal hne
  replace HB := Hd.mk (bel_then HB.out hb)
  replace HE := Hd.mk (HE.out.to hb)
  have e47 : vs 47 = .bool false := hv 40 (by decide) rfl
  simp only [PA, e47]
  clear hv hal hne hb e47
  go_wp2_with fail
  go_ret
  exact ⟨_, rfl, HB.out, rfl⟩
theorem wrap_lem {i j : Int} (hj : 1 ≤ j) : Int.tmod (Int.tmod i j + j) j = i % j := tmod_wrap (by omega)
set_option maxRecDepth 100000 in
set_option maxHeartbeats 1000000 in
theorem wrap_got (Wd Ht a b : Int) (h1 : 1 ≤ Wd ∧ Wd ≤ 1000) (h2 : 1 ≤ Ht ∧ Ht ≤ 1000) (h3 : -1000 ≤ a ∧ a ≤ 1000) (h4 : -1000 ≤ b ∧ b ≤ 1000) (w : World) :
    Calls Try.prog 59 #[.agg #[.int .i64 Wd, .int .i64 Ht], .int .i64 a, .int .i64 b] w (Got w (isP (isV (.int .i64 (a % Wd))) (isV (.int .i64 (b % Ht)))).p) := by
  have q1 := tmod_bound (i := a) (j := Wd) (by omega)
  have q2 := tmod_bound (i := b) (j := Ht) (by omega)
  have e1 := Hd.mk (wrap_lem (i := a) h1.1)
  have e2 := Hd.mk (wrap_lem (i := b) h2.1)
  go_enter Try.func59, Try.ntmps59
  go_upto_region 1 with fail
  obtain ⟨W0, hW0⟩ : ∃ W : World, W = w.alloc (.cells #[.int .i64 Wd, .int .i64 Ht] 84) := ⟨_, rfl⟩
  rw [← hW0]
  obtain ⟨he, hb⟩ := env_one hW0
  have HE := Hd.mk he
  have HB := Hd.mk hb
  clear he hb hW0
  refine wp_region_vs 22 [8, 9, 10, 11, 12, 13, 14, 15, 16, 17, 18, 19, 20, 21, 22, 23, 24, 25, 26, 27, 6, 7] [0, 1, 4, 6, 7, 10, 11, 14, 16, 17, 20, 21] [] 84 [.int .i64 0, .int .i64 0] [isV (.int .i64 a), isV (.pointer (some ⟨w.heap.size, 0, none⟩)), isV (.int .i64 Wd), isV (.int .i64 (Int.tmod a Wd)), isV (.pointer (some ⟨w.heap.size, 0, none⟩)), isV (.int .i64 Wd), isV (.int .i64 ((Int.tmod a Wd) + Wd)), isV (.pointer (some ⟨w.heap.size, 0, none⟩)), isV (.int .i64 Wd), isV (.int .i64 (a % Wd)), isV (.int .i64 b), isV (.pointer (some ⟨w.heap.size, 1, none⟩)), isV (.int .i64 Ht), isV (.int .i64 (Int.tmod b Ht)), isV (.pointer (some ⟨w.heap.size, 1, none⟩)), isV (.int .i64 Ht), isV (.int .i64 ((Int.tmod b Ht) + Ht)), isV (.pointer (some ⟨w.heap.size, 1, none⟩)), isV (.int .i64 Ht), isV (.int .i64 (b % Ht)), isV (.int .i64 (a % Wd)), isV (.int .i64 (b % Ht))] (by kernel_rfl) (by kernel_rfl) (by kernel_rfl) (by rfl) alloc_Z (fun d v c a w h => by cases d <;> exact h) ?_ ?_
  · intro qi qh qA aa wx hb hs hd
    match qi, qh, qA with
    | 0, _, _ => exact op_mv rfl (hs 1 rfl)
    | 1, _, _ => exact ⟨_, op_faZ0 rfl (hs 3 rfl), rfl⟩
    | 2, _, _ => exact op_ldI rfl rfl (hd 1 rfl) ((HE.out.to hb).cell 0 0 rfl rfl)
    | 3, _, _ => exact op_run rfl (op_rem (by omega) (by unfold Fit; omega) (by omega) rfl (hd 0 rfl) (hd 2 rfl) _) rfl
    | 4, _, _ => exact ⟨_, op_faZ0 rfl (hs 3 rfl), rfl⟩
    | 5, _, _ => exact op_ldI rfl rfl (hd 4 rfl) ((HE.out.to hb).cell 0 0 rfl rfl)
    | 6, _, _ => exact ⟨_, op_add (by unfold Fit; omega) rfl (hd 3 rfl) (hd 5 rfl), rfl⟩
    | 7, _, _ => exact ⟨_, op_faZ0 rfl (hs 3 rfl), rfl⟩
    | 8, _, _ => exact op_ldI rfl rfl (hd 7 rfl) ((HE.out.to hb).cell 0 0 rfl rfl)
    | 9, _, _ => exact wp_b (int_eq e1.out) (op_run rfl (op_rem (by omega) (by unfold Fit; omega) (by omega) rfl (hd 6 rfl) (hd 8 rfl) _) rfl)
    | 10, _, _ => exact op_mv rfl (hs 2 rfl)
    | 11, _, _ => exact ⟨_, op_faZ1 rfl (hs 3 rfl), rfl⟩
    | 12, _, _ => exact op_ldI rfl rfl (hd 11 rfl) ((HE.out.to hb).cell 0 1 rfl rfl)
    | 13, _, _ => exact op_run rfl (op_rem (by omega) (by unfold Fit; omega) (by omega) rfl (hd 10 rfl) (hd 12 rfl) _) rfl
    | 14, _, _ => exact ⟨_, op_faZ1 rfl (hs 3 rfl), rfl⟩
    | 15, _, _ => exact op_ldI rfl rfl (hd 14 rfl) ((HE.out.to hb).cell 0 1 rfl rfl)
    | 16, _, _ => exact ⟨_, op_add (by unfold Fit; omega) rfl (hd 13 rfl) (hd 15 rfl), rfl⟩
    | 17, _, _ => exact ⟨_, op_faZ1 rfl (hs 3 rfl), rfl⟩
    | 18, _, _ => exact op_ldI rfl rfl (hd 17 rfl) ((HE.out.to hb).cell 0 1 rfl rfl)
    | 19, _, _ => exact wp_b (int_eq e2.out) (op_run rfl (op_rem (by omega) (by unfold Fit; omega) (by omega) rfl (hd 16 rfl) (hd 18 rfl) _) rfl)
    | 20, _, _ => exact op_asg rfl (hd 9 rfl)
    | 21, _, _ => exact op_asg rfl (hd 19 rfl)
    | qi + 22, h, _ => omega
  intro vs X1 hb hv hal hne
  replace HB := Hd.mk (bel_then HB.out hb)
  replace HE := Hd.mk (HE.out.to hb)
  have e6 : vs 6 = .int .i64 (a % Wd) := hv 20 (by decide) rfl
  have e7 : vs 7 = .int .i64 (b % Ht) := hv 21 (by decide) rfl
  simp only [PA, e6, e7]
  clear hv hal hne hb e6 e7
  go_wp2_with fail
  refine bodyPost_ret (v := .tuple #[.int .i64 (a % Wd), .int .i64 (b % Ht)]) (by simp [results, Try.results59, go_sem]) rfl ?_
  exact ⟨_, rfl, HB.out, _, _, rfl, rfl, rfl⟩
set_option maxRecDepth 100000 in
set_option maxHeartbeats 1000000 in
theorem modulo_got (a m : Int) (h1 : 1 ≤ m ∧ m ≤ 1000) (h3 : -1000 ≤ a ∧ a ≤ 1000) (w : World) :
    Calls Try.prog 62 #[.int .i64 a, .int .i64 m] w (Got w (isV (.int .i64 (a % m))).p) := by
  have q1 := tmod_bound (i := a) (j := m) (by omega)
  have e1 := Hd.mk (wrap_lem (i := a) h1.1)
  go_enter Try.func62, Try.ntmps62
  go_upto_region 1 with fail
  have HE : Hd (Env w []) := ⟨trivial⟩
  have HB : Hd (Below w.heap.size w w) := ⟨Below.refl _ _⟩
  refine wp_region_vd 7 [5, 6, 7, 8, 9, 10, 11] [0, 1, 3, 4, 5] [] 84 [.int .i64 0, .int .i64 0] [isV (.int .i64 a), isV (.int .i64 m), isV (.int .i64 (Int.tmod a m)), isV (.int .i64 m), isV (.int .i64 ((Int.tmod a m) + m)), isV (.int .i64 m), isV (.int .i64 (a % m))] (by rfl) alloc_Z ?_ ?_
  · intro qi qh qA aa wx hb hs hd
    match qi, qh, qA with
    | 0, _, _ => exact .inl ⟨rfl, op_mv rfl (hs 0 rfl)⟩
    | 1, _, _ => exact .inl ⟨rfl, op_mv rfl (hs 1 rfl)⟩
    | 2, _, _ => exact .inl ⟨rfl, op_run rfl (op_rem (by omega) (by unfold Fit; omega) (by omega) rfl (hd 0 rfl) (hd 1 rfl) _) rfl⟩
    | 3, _, _ => exact .inl ⟨rfl, op_mv rfl (hs 1 rfl)⟩
    | 4, _, _ => exact .inl ⟨rfl, ⟨_, op_add (by unfold Fit; omega) rfl (hd 2 rfl) (hd 3 rfl), rfl⟩⟩
    | 5, _, _ => exact .inl ⟨rfl, op_mv rfl (hs 1 rfl)⟩
    | 6, _, _ => exact .inl ⟨rfl, wp_b (int_eq e1.out) (op_run rfl (op_rem (by omega) (by unfold Fit; omega) (by omega) rfl (hd 4 rfl) (hd 5 rfl) _) rfl)⟩
    | qi + 7, h, _ => omega
  intro vs X1 hb hv hal hne
  replace HB := Hd.mk (bel_then HB.out hb)
  replace HE := Hd.mk (HE.out.to hb)
  have e11 : vs 11 = .int .i64 (a % m) := hv 6 (by decide) rfl
  simp only [PA, e11]
  clear hv hal hne hb e11
  go_wp2_with fail
  go_ret
  exact ⟨_, rfl, HB.out, rfl⟩
end Go.Proofs.Ytddbmckbankmeaa
