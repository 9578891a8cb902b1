/- Part 9 of the texts behind this claim. -/
import Derived.Test.YtddbmckbankmeaaKm8
set_option linter.unusedVariables false
set_option linter.unusedSimpArgs false
namespace Go.Proofs.Ytddbmckbankmeaa
open Go.RowKit
theorem lto_e (l : Lin) (x y : Int) {u v : Int} (hl : (-1 ≤ l.a ∧ l.a ≤ 1) ∧ (-1 ≤ l.b ∧ l.b ≤ 1) ∧ (-1 ≤ l.c ∧ l.c ≤ 1) ∧ -1 ≤ l.d ∧ l.d ≤ 1) (hx : -1000 ≤ x ∧ x ≤ 1000) (hy : -1000 ≤ y ∧ y ≤ 1000) (e1 : l.a * x + l.b * y = u) (e2 : l.c * x + l.d * y = v) (w : World) :
    Calls Try.prog 61 #[.agg #[.int .i64 l.a, .int .i64 l.b, .int .i64 l.c, .int .i64 l.d], .int .i64 x, .int .i64 y] w (Got w (isP (isV (.int .i64 u)) (isV (.int .i64 v))).p) := by
  have h := lto_got l x y hl hx hy w
  rwa [e1, e2] at h
def linEq (l m : Lin) : Bool := l.a == m.a && (l.b == m.b && (l.c == m.c && l.d == m.d))
theorem linEq_lin : ∀ (f g : Bool) (n m : Fin 4), linEq (lin f n.val) (lin g m.val) = (decide (f = g) && decide (n.val = m.val)) := by decide
theorem linEq_at (f g : Bool) {n m : Nat} (h1 : n < 4) (h2 : m < 4) : linEq (lin f n) (lin g m) = (decide (f = g) && decide (n = m)) := linEq_lin f g ⟨n, h1⟩ ⟨m, h2⟩
theorem lin_comp : ∀ (f1 f2 : Bool) (n1 n2 : Fin 4),
    (lin f1 n1.val).a * (lin f2 n2.val).a + (lin f1 n1.val).b * (lin f2 n2.val).c = (lin (f1 != f2) ((n1.val + if f1 = true then 4 - n2.val else n2.val) % 4)).a ∧
    (lin f1 n1.val).c * (lin f2 n2.val).a + (lin f1 n1.val).d * (lin f2 n2.val).c = (lin (f1 != f2) ((n1.val + if f1 = true then 4 - n2.val else n2.val) % 4)).c ∧
    (lin f1 n1.val).a * (lin f2 n2.val).b + (lin f1 n1.val).b * (lin f2 n2.val).d = (lin (f1 != f2) ((n1.val + if f1 = true then 4 - n2.val else n2.val) % 4)).b ∧
    (lin f1 n1.val).c * (lin f2 n2.val).b + (lin f1 n1.val).d * (lin f2 n2.val).d = (lin (f1 != f2) ((n1.val + if f1 = true then 4 - n2.val else n2.val) % 4)).d := by decide
section
variable {o : Oper} {a : Act} {x y : Operand} {ty : TypeId} {w : World}
theorem op_eqlL {l m : Lin} (ho : o.op = .binOp .eql 95 x y ty) (hx : a.eval x = .agg #[.int .i64 l.a, .int .i64 l.b, .int .i64 l.c, .int .i64 l.d]) (hy : a.eval y = .agg #[.int .i64 m.a, .int .i64 m.b, .int .i64 m.c, .int .i64 m.d]) (w : World) :
    (execOp a.eval o).run Try.prog w = .ok (.value (.bool (linEq l m))) w := by
  generalize a.eval = ev at hx hy ⊢
  unfold execOp
  simp only [ho, hx, hy]
  unfold linEq
  cases h1 : l.a == m.a <;> cases h2 : l.b == m.b <;> cases h3 : l.c == m.c <;> cases h4 : l.d == m.d <;> simp [go_sem, h1, h2, h3, h4]
def bo (q : Nat) : Bool := decide (q = 1)
theorem op_bu2 (ho : o.op = .build 98 #[(0, .const (.bool false)), (1, .const (.bool true))]) (w : World) : (execOp a.eval o).run Try.prog w = .ok (.value (.agg #[.bool false, .bool true])) w := by
  have h0 : a.eval (.const (.bool false)) = .bool false := rfl
  have h1 : a.eval (.const (.bool true)) = .bool true := rfl
  generalize a.eval = ev at h0 h1 ⊢
  unfold execOp
  simp only [ho]
  simp [go_sem, h0, h1]
theorem op_ix2 {q : Nat} (hq : q < 2) (ho : o.op = .index 98 x y) (hx : a.eval x = .agg #[.bool false, .bool true]) (hy : a.eval y = .int .i64 (q : Int)) (w : World) : (execOp a.eval o).run Try.prog w = .ok (.value (.bool (bo q))) w := by
  generalize a.eval = ev at hx hy ⊢
  unfold execOp
  simp only [ho, hx, hy]
  rcases (show q = 0 ∨ q = 1 by omega) with rfl | rfl <;> simp [go_sem, bo, Instr.index, asIntOf]
theorem sto_B {g off : Nat} {t : TypeId} {us : List Value} {v : Value} {b : Bool} (h : Blk w g t us) (hv : us[off]? = some v) : (Instr.storeAt 4 (.pointer (some ⟨g, off, none⟩)) (.bool b)).run Try.prog w = .ok () (putL w g off [.bool b]) := by
  have h0 := (h.cell off).trans hv
  have f0 := h.frozen off
  simp only [putL]
  simp [go_sem, h0, f0]
theorem op_buN01 {i j : Int} (ho : o.op = .build 26 #[(0, x), (1, y)]) (h0 : a.eval x = .int .i64 i) (h1 : a.eval y = .int .i64 j) (w : World) : (execOp a.eval o).run Try.prog w = .ok (.value (.agg #[.int .i64 i, .int .i64 j, .int .i64 0, .bool false])) w := by
  generalize a.eval = ev at h0 h1 ⊢
  unfold execOp
  simp only [ho]
  simp [go_sem, h0, h1]
end
theorem rturned_n (f : Bool) (T : Nat) (hT : T < 4) (w : World) : Calls Try.prog 60 #[.bool f, .int .i64 (T : Int)] w (Got w (isV (.agg #[.int .i64 (lin f T).a, .int .i64 (lin f T).b, .int .i64 (lin f T).c, .int .i64 (lin f T).d])).p) := rturned_nat f T hT w
def oD (F : Bool) (N s : Nat) : Bool := decide ((if F = true then 4 else 0) + N < s)
def oT (F : Bool) (N s : Nat) : Int := if oD F N s = true then (N : Int) else 0
def oF (F : Bool) (N s : Nat) : Bool := oD F N s && F
theorem out_zero (F : Bool) (N : Nat) : oT F N (4 * 0) = 0 ∧ oF F N (4 * 0) = false := by
  have : oD F N (4 * 0) = false := decide_eq_false (by omega)
  unfold oT oF
  rw [this]
  exact ⟨rfl, rfl⟩
theorem out_all (F : Bool) {N : Nat} (h : N < 4) : oT F N (4 * 2) = (N : Int) ∧ oF F N (4 * 2) = F := by
  have : oD F N (4 * 2) = true := decide_eq_true (by split <;> omega)
  unfold oT oF
  rw [this]
  exact ⟨rfl, by cases F <;> rfl⟩
theorem out_miss {F : Bool} {N q r : Nat} (hN : N < 4) (hr : r < 4) (hq : q < 2) (h : (decide (bo q = F) && decide (r = N)) = false) : oT F N (4 * q + (r + 1)) = oT F N (4 * q + r) ∧ oF F N (4 * q + (r + 1)) = oF F N (4 * q + r) := by
  have : oD F N (4 * q + (r + 1)) = oD F N (4 * q + r) := by
    unfold oD
    rcases (show q = 0 ∨ q = 1 by omega) with rfl | rfl <;> cases F <;> simp [bo] at h ⊢ <;> omega
  unfold oT oF
  rw [this]
  exact ⟨rfl, rfl⟩
theorem out_hit {F : Bool} {N q r : Nat} (hq : q < 2) (h : (decide (bo q = F) && decide (r = N)) = true) : oT F N (4 * q + (r + 1)) = (r : Int) ∧ oF F N (4 * q + (r + 1)) = bo q := by
  simp only [Bool.and_eq_true, decide_eq_true_eq] at h
  obtain ⟨h1, h2⟩ := h
  subst h1 h2
  have : oD (bo q) r (4 * q + (r + 1)) = true := by
    unfold oD
    rcases (show q = 0 ∨ q = 1 by omega) with rfl | rfl <;> simp [bo]
  unfold oT oF
  rw [this]
  exact ⟨rfl, by cases bo q <;> rfl⟩
set_option maxRecDepth 100000 in
set_option maxHeartbeats 1000000 in
theorem rAfter_l (Wd Ht x1 y1 t1 x2 y2 t2 px py : Int) (f1 f2 F : Bool) (N : Nat) (l1 l2 lb : Lin) (w : World)
    (hl1 : ∀ W, Calls Try.prog 60 #[.bool f1, .int .i64 t1] W (Got W (isV (.agg #[.int .i64 l1.a, .int .i64 l1.b, .int .i64 l1.c, .int .i64 l1.d])).p)) (hl2 : ∀ W, Calls Try.prog 60 #[.bool f2, .int .i64 t2] W (Got W (isV (.agg #[.int .i64 l2.a, .int .i64 l2.b, .int .i64 l2.c, .int .i64 l2.d])).p))
    (hb1 : (-1 ≤ l1.a ∧ l1.a ≤ 1) ∧ (-1 ≤ l1.b ∧ l1.b ≤ 1) ∧ (-1 ≤ l1.c ∧ l1.c ≤ 1) ∧ -1 ≤ l1.d ∧ l1.d ≤ 1) (hb2 : (-1 ≤ l2.a ∧ l2.a ≤ 1) ∧ (-1 ≤ l2.b ∧ l2.b ≤ 1) ∧ (-1 ≤ l2.c ∧ l2.c ≤ 1) ∧ -1 ≤ l2.d ∧ l2.d ≤ 1)
    (hc : l1.a * l2.a + l1.b * l2.c = lb.a ∧ l1.c * l2.a + l1.d * l2.c = lb.c ∧ l1.a * l2.b + l1.b * l2.d = lb.b ∧ l1.c * l2.b + l1.d * l2.d = lb.d) (hp : l1.a * x2 + l1.b * y2 = px ∧ l1.c * x2 + l1.d * y2 = py)
    (hN : N < 4) (hlb : lb = lin F N) (hw : 1 ≤ Wd ∧ Wd ≤ 8) (hh : 1 ≤ Ht ∧ Ht ≤ 8) (hx1 : 0 ≤ x1 ∧ x1 < 8) (hy1 : 0 ≤ y1 ∧ y1 < 8) (hx2 : 0 ≤ x2 ∧ x2 < 8) (hy2 : 0 ≤ y2 ∧ y2 < 8) (hpx : -8 ≤ px ∧ px ≤ 8) (hpy : -8 ≤ py ∧ py ≤ 8) :
    Calls Try.prog 28 #[.int .i64 Wd, .int .i64 Ht, .agg #[.int .i64 x1, .int .i64 y1, .int .i64 t1, .bool f1], .agg #[.int .i64 x2, .int .i64 y2, .int .i64 t2, .bool f2]] w (Got w (isV (.agg #[.int .i64 ((px + x1) % Wd), .int .i64 ((py + y1) % Ht), .int .i64 (N : Int), .bool F])).p) := by
  have HL1 := Hd.mk hl1
  have HL2 := Hd.mk hl2
  have HB1 := Hd.mk hb1
  have HB2 := Hd.mk hb2
  have HC := Hd.mk hc
  have HP := Hd.mk hp
  have HN := Hd.mk hN
  have HLB := Hd.mk hlb
  have hb1' := hb1
  have hb2' := hb2
  have hcb : (-1 ≤ lb.a ∧ lb.a ≤ 1) ∧ (-1 ≤ lb.b ∧ lb.b ≤ 1) ∧ (-1 ≤ lb.c ∧ lb.c ≤ 1) ∧ -1 ≤ lb.d ∧ lb.d ≤ 1 := by rw [hlb]; exact lin_bound F N
  clear hl1 hl2 hc hp hN hlb
  go_enter Try.func28, Try.ntmps28
  go_upto_region 1 with fail
  obtain ⟨W0, hW0⟩ : ∃ W : World, W = ((w.alloc (.cells #[.int .i64 x1, .int .i64 y1, .int .i64 t1, .bool f1] 26)).alloc (.cells #[.int .i64 x2, .int .i64 y2, .int .i64 t2, .bool f2] 26)).alloc (.cells #[.int .i64 0, .int .i64 0, .int .i64 0, .bool false] 26) := ⟨_, rfl⟩
  rw [← hW0]
  obtain ⟨he, hb⟩ := env_three hW0
  have HE := Hd.mk he
  have HB := Hd.mk hb
  clear he hb hW0
  refine wp_region_vs 12 [22, 23, 24, 25, 26, 27, 28, 29, 30, 31, 9, 10] [0, 2, 5, 7] [10, 11] 95 [.int .i64 0, .int .i64 0, .int .i64 0, .int .i64 0] [isV (.pointer (some ⟨w.heap.size, 3, none⟩)), isV (.bool f1), isV (.pointer (some ⟨w.heap.size, 2, none⟩)), isV (.int .i64 t1), isV (.agg #[.int .i64 l1.a, .int .i64 l1.b, .int .i64 l1.c, .int .i64 l1.d]), isV (.pointer (some ⟨w.heap.size + 1, 3, none⟩)), isV (.bool f2), isV (.pointer (some ⟨w.heap.size + 1, 2, none⟩)), isV (.int .i64 t2), isV (.agg #[.int .i64 l2.a, .int .i64 l2.b, .int .i64 l2.c, .int .i64 l2.d]), SP.any, SP.any] (by kernel_rfl) (by kernel_rfl) (by kernel_rfl) (by rfl) alloc_L (fun d v c a w h => by cases d <;> exact h) ?_ ?_
  · intro qi qh qA aa wx hb hs hd
    match qi, qh, qA with
    | 0, _, _ => exact ⟨_, op_faN3 rfl (hs 6 rfl), rfl⟩
    | 1, _, _ => exact op_ldB rfl rfl (hd 0 rfl) ((HE.out.to hb).cell 0 3 rfl rfl)
    | 2, _, _ => exact ⟨_, op_faN2 rfl (hs 6 rfl), rfl⟩
    | 3, _, _ => exact op_ldI rfl rfl (hd 2 rfl) ((HE.out.to hb).cell 0 2 rfl rfl)
    | 4, _, _ => exact op_call2 rfl rfl Try.call60 (by rw [(show aa.eval (.tmp 23) = .bool f1 from (hd 1 rfl)), (show aa.eval (.tmp 25) = .int .i64 t1 from (hd 3 rfl))]; exact HL1.out _)
    | 5, _, _ => exact ⟨_, op_faN3 rfl (hs 7 rfl), rfl⟩
    | 6, _, _ => exact op_ldB rfl rfl (hd 5 rfl) ((HE.out.to hb).cell 1 3 rfl rfl)
    | 7, _, _ => exact ⟨_, op_faN2 rfl (hs 7 rfl), rfl⟩
    | 8, _, _ => exact op_ldI rfl rfl (hd 7 rfl) ((HE.out.to hb).cell 1 2 rfl rfl)
    | 9, _, _ => exact op_call2 rfl rfl Try.call60 (by rw [(show aa.eval (.tmp 28) = .bool f2 from (hd 6 rfl)), (show aa.eval (.tmp 30) = .int .i64 t2 from (hd 8 rfl))]; exact HL2.out _)
    | 10, _, h => cases h
    | 11, _, h => cases h
    | qi + 12, h, _ => omega
  intro vs X1 hb hv hal hne
  have HL0 := Hd.mk (HE.out.lt)
  have HBW := HB
  replace HB := Hd.mk (bel_then HB.out hb)
  replace HE := Hd.mk (HE.out.to hb)
  have e26 : vs 26 = .agg #[.int .i64 l1.a, .int .i64 l1.b, .int .i64 l1.c, .int .i64 l1.d] := hv 4 (by decide) rfl
  have e31 : vs 31 = .agg #[.int .i64 l2.a, .int .i64 l2.b, .int .i64 l2.c, .int .i64 l2.d] := hv 9 (by decide) rfl
  obtain ⟨g9, e9, l9, b9⟩ : ∃ g, vs 9 = .pointer (some ⟨g, 0, none⟩) ∧ _ := hal 10 rfl
  obtain ⟨g10, e10, l10, b10⟩ : ∃ g, vs 10 = .pointer (some ⟨g, 0, none⟩) ∧ _ := hal 11 rfl
  replace HE : Hd (Env X1 [⟨w.heap.size, 26, [.int .i64 x1, .int .i64 y1, .int .i64 t1, .bool f1]⟩, ⟨w.heap.size + 1, 26, [.int .i64 x2, .int .i64 y2, .int .i64 t2, .bool f2]⟩, ⟨w.heap.size + 1 + 1, 26, [.int .i64 0, .int .i64 0, .int .i64 0, .bool false]⟩, ⟨g9, 95, [.int .i64 0, .int .i64 0, .int .i64 0, .int .i64 0]⟩]) := ⟨Env.addne (e := ⟨g9, 95, [.int .i64 0, .int .i64 0, .int .i64 0, .int .i64 0]⟩) HE.out b9 (fun e' he => Nat.ne_of_lt (Nat.lt_of_lt_of_le (HL0.out e' he) l9))⟩
  have G9 : Hd (w.heap.size ≤ g9) := ⟨Nat.le_trans HBW.out.size l9⟩
  replace HE : Hd (Env X1 [⟨w.heap.size, 26, [.int .i64 x1, .int .i64 y1, .int .i64 t1, .bool f1]⟩, ⟨w.heap.size + 1, 26, [.int .i64 x2, .int .i64 y2, .int .i64 t2, .bool f2]⟩, ⟨w.heap.size + 1 + 1, 26, [.int .i64 0, .int .i64 0, .int .i64 0, .bool false]⟩, ⟨g9, 95, [.int .i64 0, .int .i64 0, .int .i64 0, .int .i64 0]⟩, ⟨g10, 95, [.int .i64 0, .int .i64 0, .int .i64 0, .int .i64 0]⟩]) := ⟨Env.addne (e := ⟨g10, 95, [.int .i64 0, .int .i64 0, .int .i64 0, .int .i64 0]⟩) HE.out b10 (fun e' he => (List.mem_append.1 (show e' ∈ _ ++ [_] from he)).elim (fun he => Nat.ne_of_lt (Nat.lt_of_lt_of_le (HL0.out e' he) l10)) (fun he => by rw [List.mem_singleton.1 he]; exact ptr_ne (by rw [← e9, ← e10]; exact hne 10 11 rfl rfl (by decide))))⟩
  have G10 : Hd (w.heap.size ≤ g10) := ⟨Nat.le_trans HBW.out.size l10⟩
  simp only [PA, e26, e31, e9, e10]
  clear hv hal hne hb HL0 HBW e26 e31 e9 e10 l9 l10 b9 b10
  refine wpList_st rfl rfl rfl rfl rfl (sto_L (HE.out.get 3 rfl)) ?_
  have HE' : Env (putL X1 g9 0 [.int .i64 l1.a, .int .i64 l1.b, .int .i64 l1.c, .int .i64 l1.d]) [⟨w.heap.size, 26, [.int .i64 x1, .int .i64 y1, .int .i64 t1, .bool f1]⟩, ⟨w.heap.size + 1, 26, [.int .i64 x2, .int .i64 y2, .int .i64 t2, .bool f2]⟩, ⟨w.heap.size + 1 + 1, 26, [.int .i64 0, .int .i64 0, .int .i64 0, .bool false]⟩, ⟨g9, 95, [.int .i64 l1.a, .int .i64 l1.b, .int .i64 l1.c, .int .i64 l1.d]⟩, ⟨g10, 95, [.int .i64 0, .int .i64 0, .int .i64 0, .int .i64 0]⟩] := HE.out.putF 3 rfl rfl
  have HB' := putL_below (show w.heap.size ≤ g9 from G9.out) [.int .i64 l1.a, .int .i64 l1.b, .int .i64 l1.c, .int .i64 l1.d] _ 0 HB.out
  generalize putL X1 g9 0 [.int .i64 l1.a, .int .i64 l1.b, .int .i64 l1.c, .int .i64 l1.d] = X2 at *
  replace HE := Hd.mk HE'
  replace HB := Hd.mk HB'
  clear HE' HB'
  refine wpList_st rfl rfl rfl rfl rfl (sto_L (HE.out.get 4 rfl)) ?_
  have HE' : Env (putL X2 g10 0 [.int .i64 l2.a, .int .i64 l2.b, .int .i64 l2.c, .int .i64 l2.d]) [⟨w.heap.size, 26, [.int .i64 x1, .int .i64 y1, .int .i64 t1, .bool f1]⟩, ⟨w.heap.size + 1, 26, [.int .i64 x2, .int .i64 y2, .int .i64 t2, .bool f2]⟩, ⟨w.heap.size + 1 + 1, 26, [.int .i64 0, .int .i64 0, .int .i64 0, .bool false]⟩, ⟨g9, 95, [.int .i64 l1.a, .int .i64 l1.b, .int .i64 l1.c, .int .i64 l1.d]⟩, ⟨g10, 95, [.int .i64 l2.a, .int .i64 l2.b, .int .i64 l2.c, .int .i64 l2.d]⟩] := HE.out.putF 4 rfl rfl
  have HB' := putL_below (show w.heap.size ≤ g10 from G10.out) [.int .i64 l2.a, .int .i64 l2.b, .int .i64 l2.c, .int .i64 l2.d] _ 0 HB.out
  generalize putL X2 g10 0 [.int .i64 l2.a, .int .i64 l2.b, .int .i64 l2.c, .int .i64 l2.d] = X3 at *
  replace HE := Hd.mk HE'
  replace HB := Hd.mk HB'
  clear HE' HB'
  go_upto_region 2 with fail
  refine wp_region_vd 5 [33, 34, 32, 35, 36] [2, 3, 4] [] 84 [.int .i64 0, .int .i64 0] [isV (.agg #[.int .i64 l2.a, .int .i64 l2.b, .int .i64 l2.c, .int .i64 l2.d]), isP (isV (.int .i64 l2.a)) (isV (.int .i64 l2.c)), isP (isV (.int .i64 l2.a)) (isV (.int .i64 l2.c)), isV (.int .i64 l2.a), isV (.int .i64 l2.c)] (by rfl) alloc_Z ?_ ?_
  · intro qi qh qA aa wx hb hs hd
    match qi, qh, qA with
    | 0, _, _ => exact .inl ⟨rfl, op_ldL rfl rfl (hs 10 rfl) ((HE.out.to hb).get 4 rfl)⟩
    | 1, _, _ => exact .inl ⟨rfl, op_call3 rfl rfl Try.call61 (by rw [(show aa.eval (.tmp 33) = .agg #[.int .i64 l2.a, .int .i64 l2.b, .int .i64 l2.c, .int .i64 l2.d] from (hd 0 rfl))]; exact (lto_e l2 1 0 HB2.out (by omega) (by omega) (by simp only [Int.mul_one, Int.mul_zero, Int.add_zero]) (by simp only [Int.mul_one, Int.mul_zero, Int.add_zero]) _))⟩
    | 2, _, _ => exact .inl ⟨rfl, op_mv rfl (hd 1 rfl)⟩
    | 3, _, _ => exact .inl ⟨rfl, op_fst rfl (hd 2 rfl)⟩
    | 4, _, _ => exact .inl ⟨rfl, op_snd rfl (hd 2 rfl)⟩
    | qi + 5, h, _ => omega
  intro vs X4 hb hv hal hne
  replace HB := Hd.mk (bel_then HB.out hb)
  replace HE := Hd.mk (HE.out.to hb)
  have e35 : vs 35 = .int .i64 l2.a := hv 3 (by decide) rfl
  have e36 : vs 36 = .int .i64 l2.c := hv 4 (by decide) rfl
  simp only [PA, e35, e36]
  clear hv hal hne hb e35 e36
  go_upto_region 3 with fail
  refine wp_region_vd 5 [38, 39, 37, 40, 41] [2, 3, 4] [] 84 [.int .i64 0, .int .i64 0] [isV (.agg #[.int .i64 l2.a, .int .i64 l2.b, .int .i64 l2.c, .int .i64 l2.d]), isP (isV (.int .i64 l2.b)) (isV (.int .i64 l2.d)), isP (isV (.int .i64 l2.b)) (isV (.int .i64 l2.d)), isV (.int .i64 l2.b), isV (.int .i64 l2.d)] (by rfl) alloc_Z ?_ ?_
  · intro qi qh qA aa wx hb hs hd
    match qi, qh, qA with
    | 0, _, _ => exact .inl ⟨rfl, op_ldL rfl rfl (hs 10 rfl) ((HE.out.to hb).get 4 rfl)⟩
    | 1, _, _ => exact .inl ⟨rfl, op_call3 rfl rfl Try.call61 (by rw [(show aa.eval (.tmp 38) = .agg #[.int .i64 l2.a, .int .i64 l2.b, .int .i64 l2.c, .int .i64 l2.d] from (hd 0 rfl))]; exact (lto_e l2 0 1 HB2.out (by omega) (by omega) (by simp only [Int.mul_one, Int.mul_zero, Int.zero_add]) (by simp only [Int.mul_one, Int.mul_zero, Int.zero_add]) _))⟩
    | 2, _, _ => exact .inl ⟨rfl, op_mv rfl (hd 1 rfl)⟩
    | 3, _, _ => exact .inl ⟨rfl, op_fst rfl (hd 2 rfl)⟩
    | 4, _, _ => exact .inl ⟨rfl, op_snd rfl (hd 2 rfl)⟩
    | qi + 5, h, _ => omega
  intro vs X5 hb hv hal hne
  replace HB := Hd.mk (bel_then HB.out hb)
  replace HE := Hd.mk (HE.out.to hb)
  have e40 : vs 40 = .int .i64 l2.b := hv 3 (by decide) rfl
  have e41 : vs 41 = .int .i64 l2.d := hv 4 (by decide) rfl
  simp only [PA, e40, e41]
  clear hv hal hne hb e40 e41
  go_upto_region 4 with fail
  refine wp_region_vd 1 [15] [] [0] 95 [.int .i64 0, .int .i64 0, .int .i64 0, .int .i64 0] [SP.any] (by rfl) alloc_L ?_ ?_
  · intro qi qh qA aa wx hb hs hd
    match qi, qh, qA with
    | 0, _, h => cases h
    | qi + 1, h, _ => omega
  intro vs X6 hb hv hal hne
  have HL0 := Hd.mk (HE.out.lt)
  have HBW := HB
  replace HB := Hd.mk (bel_then HB.out hb)
  replace HE := Hd.mk (HE.out.to hb)
  obtain ⟨g15, e15, l15, b15⟩ : ∃ g, vs 15 = .pointer (some ⟨g, 0, none⟩) ∧ _ := hal 0 rfl
  replace HE : Hd (Env X6 [⟨w.heap.size, 26, [.int .i64 x1, .int .i64 y1, .int .i64 t1, .bool f1]⟩, ⟨w.heap.size + 1, 26, [.int .i64 x2, .int .i64 y2, .int .i64 t2, .bool f2]⟩, ⟨w.heap.size + 1 + 1, 26, [.int .i64 0, .int .i64 0, .int .i64 0, .bool false]⟩, ⟨g9, 95, [.int .i64 l1.a, .int .i64 l1.b, .int .i64 l1.c, .int .i64 l1.d]⟩, ⟨g10, 95, [.int .i64 l2.a, .int .i64 l2.b, .int .i64 l2.c, .int .i64 l2.d]⟩, ⟨g15, 95, [.int .i64 0, .int .i64 0, .int .i64 0, .int .i64 0]⟩]) := ⟨Env.addne (e := ⟨g15, 95, [.int .i64 0, .int .i64 0, .int .i64 0, .int .i64 0]⟩) HE.out b15 (fun e' he => Nat.ne_of_lt (Nat.lt_of_lt_of_le (HL0.out e' he) l15))⟩
  have G15 : Hd (w.heap.size ≤ g15) := ⟨Nat.le_trans HBW.out.size l15⟩
  simp only [PA, e15]
  clear hv hal hne hb HL0 HBW e15 l15 b15
  go_upto_region 5 with fail
  refine wp_region_vd 8 [43, 44, 45, 46, 42, 47, 48, 49] [1, 2, 4, 5, 6, 7] [] 84 [.int .i64 0, .int .i64 0] [isV (.agg #[.int .i64 l1.a, .int .i64 l1.b, .int .i64 l1.c, .int .i64 l1.d]), isV (.int .i64 l2.a), isV (.int .i64 l2.c), isP (isV (.int .i64 lb.a)) (isV (.int .i64 lb.c)), isP (isV (.int .i64 lb.a)) (isV (.int .i64 lb.c)), isV (.int .i64 lb.a), isV (.int .i64 lb.c), isV (.pointer (some ⟨g15, 0, none⟩))] (by rfl) alloc_Z ?_ ?_
  · intro qi qh qA aa wx hb hs hd
    match qi, qh, qA with
    | 0, _, _ => exact .inl ⟨rfl, op_ldL rfl rfl (hs 9 rfl) ((HE.out.to hb).get 3 rfl)⟩
    | 1, _, _ => exact .inl ⟨rfl, op_mv rfl (hs 11 rfl)⟩
    | 2, _, _ => exact .inl ⟨rfl, op_mv rfl (hs 12 rfl)⟩
    | 3, _, _ => exact .inl ⟨rfl, op_call3 rfl rfl Try.call61 (by rw [(show aa.eval (.tmp 43) = .agg #[.int .i64 l1.a, .int .i64 l1.b, .int .i64 l1.c, .int .i64 l1.d] from (hd 0 rfl)), (show aa.eval (.tmp 44) = .int .i64 l2.a from (hd 1 rfl)), (show aa.eval (.tmp 45) = .int .i64 l2.c from (hd 2 rfl))]; exact (lto_e l1 l2.a l2.c HB1.out (by omega) (by omega) HC.out.1 HC.out.2.1 _))⟩
    | 4, _, _ => exact .inl ⟨rfl, op_mv rfl (hd 3 rfl)⟩
    | 5, _, _ => exact .inl ⟨rfl, op_fst rfl (hd 4 rfl)⟩
    | 6, _, _ => exact .inl ⟨rfl, op_snd rfl (hd 4 rfl)⟩
    | 7, _, _ => exact .inl ⟨rfl, ⟨_, op_faL0 rfl (hs 15 rfl), rfl⟩⟩
    | qi + 8, h, _ => omega
  intro vs X7 hb hv hal hne
  replace HB := Hd.mk (bel_then HB.out hb)
  replace HE := Hd.mk (HE.out.to hb)
  have e49 : vs 49 = .pointer (some ⟨g15, 0, none⟩) := hv 7 (by decide) rfl
  have e47 : vs 47 = .int .i64 lb.a := hv 5 (by decide) rfl
  have e48 : vs 48 = .int .i64 lb.c := hv 6 (by decide) rfl
  simp only [PA, e49, e47, e48]
  clear hv hal hne hb e49 e47 e48
  refine wpList_st rfl rfl rfl rfl rfl (sto_I (HE.out.get 5 rfl) rfl) ?_
  have HE' : Env (putL X7 g15 0 [.int .i64 lb.a]) [⟨w.heap.size, 26, [.int .i64 x1, .int .i64 y1, .int .i64 t1, .bool f1]⟩, ⟨w.heap.size + 1, 26, [.int .i64 x2, .int .i64 y2, .int .i64 t2, .bool f2]⟩, ⟨w.heap.size + 1 + 1, 26, [.int .i64 0, .int .i64 0, .int .i64 0, .bool false]⟩, ⟨g9, 95, [.int .i64 l1.a, .int .i64 l1.b, .int .i64 l1.c, .int .i64 l1.d]⟩, ⟨g10, 95, [.int .i64 l2.a, .int .i64 l2.b, .int .i64 l2.c, .int .i64 l2.d]⟩, ⟨g15, 95, [.int .i64 lb.a, .int .i64 0, .int .i64 0, .int .i64 0]⟩] := HE.out.putO 5 rfl
  have HB' := putL_below (show w.heap.size ≤ g15 from G15.out) [.int .i64 lb.a] _ 0 HB.out
  generalize putL X7 g15 0 [.int .i64 lb.a] = X8 at *
  replace HE := Hd.mk HE'
  replace HB := Hd.mk HB'
  clear HE' HB'
  refine wpList_run rfl (op_faL2 rfl rfl _) ?_
  simp only [Act.put, List.setIfInBounds_toArray, List.set_cons_succ, List.set_cons_zero, Nat.zero_add]
  refine wpList_st rfl rfl rfl rfl rfl (sto_I (HE.out.get 5 rfl) rfl) ?_
  have HE' : Env (putL X8 g15 2 [.int .i64 lb.c]) [⟨w.heap.size, 26, [.int .i64 x1, .int .i64 y1, .int .i64 t1, .bool f1]⟩, ⟨w.heap.size + 1, 26, [.int .i64 x2, .int .i64 y2, .int .i64 t2, .bool f2]⟩, ⟨w.heap.size + 1 + 1, 26, [.int .i64 0, .int .i64 0, .int .i64 0, .bool false]⟩, ⟨g9, 95, [.int .i64 l1.a, .int .i64 l1.b, .int .i64 l1.c, .int .i64 l1.d]⟩, ⟨g10, 95, [.int .i64 l2.a, .int .i64 l2.b, .int .i64 l2.c, .int .i64 l2.d]⟩, ⟨g15, 95, [.int .i64 lb.a, .int .i64 0, .int .i64 lb.c, .int .i64 0]⟩] := HE.out.putO 5 rfl
  have HB' := putL_below (show w.heap.size ≤ g15 from G15.out) [.int .i64 lb.c] _ 2 HB.out
  generalize putL X8 g15 2 [.int .i64 lb.c] = X9 at *
  replace HE := Hd.mk HE'
  replace HB := Hd.mk HB'
  clear HE' HB'
  go_upto_region 6 with fail
  refine wp_region_vd 8 [52, 53, 54, 55, 51, 56, 57, 58] [1, 2, 4, 5, 6, 7] [] 84 [.int .i64 0, .int .i64 0] [isV (.agg #[.int .i64 l1.a, .int .i64 l1.b, .int .i64 l1.c, .int .i64 l1.d]), isV (.int .i64 l2.b), isV (.int .i64 l2.d), isP (isV (.int .i64 lb.b)) (isV (.int .i64 lb.d)), isP (isV (.int .i64 lb.b)) (isV (.int .i64 lb.d)), isV (.int .i64 lb.b), isV (.int .i64 lb.d), isV (.pointer (some ⟨g15, 1, none⟩))] (by rfl) alloc_Z ?_ ?_
  · intro qi qh qA aa wx hb hs hd
    match qi, qh, qA with
    | 0, _, _ => exact .inl ⟨rfl, op_ldL rfl rfl (hs 9 rfl) ((HE.out.to hb).get 3 rfl)⟩
    | 1, _, _ => exact .inl ⟨rfl, op_mv rfl (hs 13 rfl)⟩
    | 2, _, _ => exact .inl ⟨rfl, op_mv rfl (hs 14 rfl)⟩
    | 3, _, _ => exact .inl ⟨rfl, op_call3 rfl rfl Try.call61 (by rw [(show aa.eval (.tmp 52) = .agg #[.int .i64 l1.a, .int .i64 l1.b, .int .i64 l1.c, .int .i64 l1.d] from (hd 0 rfl)), (show aa.eval (.tmp 53) = .int .i64 l2.b from (hd 1 rfl)), (show aa.eval (.tmp 54) = .int .i64 l2.d from (hd 2 rfl))]; exact (lto_e l1 l2.b l2.d HB1.out (by omega) (by omega) HC.out.2.2.1 HC.out.2.2.2 _))⟩
    | 4, _, _ => exact .inl ⟨rfl, op_mv rfl (hd 3 rfl)⟩
    | 5, _, _ => exact .inl ⟨rfl, op_fst rfl (hd 4 rfl)⟩
    | 6, _, _ => exact .inl ⟨rfl, op_snd rfl (hd 4 rfl)⟩
    | 7, _, _ => exact .inl ⟨rfl, ⟨_, op_faL1 rfl (hs 15 rfl), rfl⟩⟩
    | qi + 8, h, _ => omega
  intro vs X10 hb hv hal hne
  replace HB := Hd.mk (bel_then HB.out hb)
  replace HE := Hd.mk (HE.out.to hb)
  have e58 : vs 58 = .pointer (some ⟨g15, 1, none⟩) := hv 7 (by decide) rfl
  have e56 : vs 56 = .int .i64 lb.b := hv 5 (by decide) rfl
  have e57 : vs 57 = .int .i64 lb.d := hv 6 (by decide) rfl
  simp only [PA, e58, e56, e57]
  clear hv hal hne hb e58 e56 e57
  refine wpList_st rfl rfl rfl rfl rfl (sto_I (HE.out.get 5 rfl) rfl) ?_
  have HE' : Env (putL X10 g15 1 [.int .i64 lb.b]) [⟨w.heap.size, 26, [.int .i64 x1, .int .i64 y1, .int .i64 t1, .bool f1]⟩, ⟨w.heap.size + 1, 26, [.int .i64 x2, .int .i64 y2, .int .i64 t2, .bool f2]⟩, ⟨w.heap.size + 1 + 1, 26, [.int .i64 0, .int .i64 0, .int .i64 0, .bool false]⟩, ⟨g9, 95, [.int .i64 l1.a, .int .i64 l1.b, .int .i64 l1.c, .int .i64 l1.d]⟩, ⟨g10, 95, [.int .i64 l2.a, .int .i64 l2.b, .int .i64 l2.c, .int .i64 l2.d]⟩, ⟨g15, 95, [.int .i64 lb.a, .int .i64 lb.b, .int .i64 lb.c, .int .i64 0]⟩] := HE.out.putO 5 rfl
  have HB' := putL_below (show w.heap.size ≤ g15 from G15.out) [.int .i64 lb.b] _ 1 HB.out
  generalize putL X10 g15 1 [.int .i64 lb.b] = X11 at *
  replace HE := Hd.mk HE'
  replace HB := Hd.mk HB'
  clear HE' HB'
  refine wpList_run rfl (op_faL3 rfl rfl _) ?_
  simp only [Act.put, List.setIfInBounds_toArray, List.set_cons_succ, List.set_cons_zero, Nat.zero_add]
  refine wpList_st rfl rfl rfl rfl rfl (sto_I (HE.out.get 5 rfl) rfl) ?_
  have HE' : Env (putL X11 g15 3 [.int .i64 lb.d]) [⟨w.heap.size, 26, [.int .i64 x1, .int .i64 y1, .int .i64 t1, .bool f1]⟩, ⟨w.heap.size + 1, 26, [.int .i64 x2, .int .i64 y2, .int .i64 t2, .bool f2]⟩, ⟨w.heap.size + 1 + 1, 26, [.int .i64 0, .int .i64 0, .int .i64 0, .bool false]⟩, ⟨g9, 95, [.int .i64 l1.a, .int .i64 l1.b, .int .i64 l1.c, .int .i64 l1.d]⟩, ⟨g10, 95, [.int .i64 l2.a, .int .i64 l2.b, .int .i64 l2.c, .int .i64 l2.d]⟩, ⟨g15, 95, [.int .i64 lb.a, .int .i64 lb.b, .int .i64 lb.c, .int .i64 lb.d]⟩] := HE.out.putO 5 rfl
  have HB' := putL_below (show w.heap.size ≤ g15 from G15.out) [.int .i64 lb.d] _ 3 HB.out
  generalize putL X11 g15 3 [.int .i64 lb.d] = X12 at *
  replace HE := Hd.mk HE'
  replace HB := Hd.mk HB'
  clear HE' HB'
  go_upto_region 7 with fail
  refine wp_region_vd 9 [61, 62, 63, 64, 65, 66, 60, 67, 68] [1, 3, 6, 7, 8] [] 84 [.int .i64 0, .int .i64 0] [isV (.agg #[.int .i64 l1.a, .int .i64 l1.b, .int .i64 l1.c, .int .i64 l1.d]), isV (.pointer (some ⟨w.heap.size + 1, 0, none⟩)), isV (.int .i64 x2), isV (.pointer (some ⟨w.heap.size + 1, 1, none⟩)), isV (.int .i64 y2), isP (isV (.int .i64 px)) (isV (.int .i64 py)), isP (isV (.int .i64 px)) (isV (.int .i64 py)), isV (.int .i64 px), isV (.int .i64 py)] (by rfl) alloc_Z ?_ ?_
  · intro qi qh qA aa wx hb hs hd
    match qi, qh, qA with
    | 0, _, _ => exact .inl ⟨rfl, op_ldL rfl rfl (hs 9 rfl) ((HE.out.to hb).get 3 rfl)⟩
    | 1, _, _ => exact .inl ⟨rfl, ⟨_, op_faN0 rfl (hs 7 rfl), rfl⟩⟩
    | 2, _, _ => exact .inl ⟨rfl, op_ldI rfl rfl (hd 1 rfl) ((HE.out.to hb).cell 1 0 rfl rfl)⟩
    | 3, _, _ => exact .inl ⟨rfl, ⟨_, op_faN1 rfl (hs 7 rfl), rfl⟩⟩
    | 4, _, _ => exact .inl ⟨rfl, op_ldI rfl rfl (hd 3 rfl) ((HE.out.to hb).cell 1 1 rfl rfl)⟩
    | 5, _, _ => exact .inl ⟨rfl, op_call3 rfl rfl Try.call61 (by rw [(show aa.eval (.tmp 61) = .agg #[.int .i64 l1.a, .int .i64 l1.b, .int .i64 l1.c, .int .i64 l1.d] from (hd 0 rfl)), (show aa.eval (.tmp 63) = .int .i64 x2 from (hd 2 rfl)), (show aa.eval (.tmp 65) = .int .i64 y2 from (hd 4 rfl))]; exact (lto_e l1 x2 y2 HB1.out (by omega) (by omega) HP.out.1 HP.out.2 _))⟩
    | 6, _, _ => exact .inl ⟨rfl, op_mv rfl (hd 5 rfl)⟩
    | 7, _, _ => exact .inl ⟨rfl, op_fst rfl (hd 6 rfl)⟩
    | 8, _, _ => exact .inl ⟨rfl, op_snd rfl (hd 6 rfl)⟩
    | qi + 9, h, _ => omega
  intro vs X13 hb hv hal hne
  replace HB := Hd.mk (bel_then HB.out hb)
  replace HE := Hd.mk (HE.out.to hb)
  have e67 : vs 67 = .int .i64 px := hv 7 (by decide) rfl
  have e68 : vs 68 = .int .i64 py := hv 8 (by decide) rfl
  simp only [PA, e67, e68]
  clear hv hal hne hb e67 e68
  go_upto_region 8 with fail
  refine wp_region_vs 14 [69, 70, 71, 72, 73, 74, 75, 76, 77, 78, 79, 80, 81, 18] [0, 1, 3, 4, 6, 7, 9, 10, 12] [13] 26 [.int .i64 0, .int .i64 0, .int .i64 0, .bool false] [isV (.int .i64 px), isV (.pointer (some ⟨w.heap.size, 0, none⟩)), isV (.int .i64 x1), isV (.int .i64 (px + x1)), isV (.int .i64 Wd), isV (.int .i64 ((px + x1) % Wd)), isV (.int .i64 py), isV (.pointer (some ⟨w.heap.size, 1, none⟩)), isV (.int .i64 y1), isV (.int .i64 (py + y1)), isV (.int .i64 Ht), isV (.int .i64 ((py + y1) % Ht)), isV (.agg #[.int .i64 ((px + x1) % Wd), .int .i64 ((py + y1) % Ht), .int .i64 0, .bool false]), SP.any] (by kernel_rfl) (by kernel_rfl) (by kernel_rfl) (by rfl) alloc_N (fun d v c a w h => by cases d <;> exact h) ?_ ?_
  · intro qi qh qA aa wx hb hs hd
    match qi, qh, qA with
    | 0, _, _ => exact op_mv rfl (hs 16 rfl)
    | 1, _, _ => exact ⟨_, op_faN0 rfl (hs 6 rfl), rfl⟩
    | 2, _, _ => exact op_ldI rfl rfl (hd 1 rfl) ((HE.out.to hb).cell 0 0 rfl rfl)
    | 3, _, _ => exact ⟨_, op_add (by unfold Fit; omega) rfl (hd 0 rfl) (hd 2 rfl), rfl⟩
    | 4, _, _ => exact op_mv rfl (hs 0 rfl)
    | 5, _, _ => exact op_call2 rfl rfl Try.call62 (by rw [(show aa.eval (.tmp 72) = .int .i64 (px + x1) from (hd 3 rfl)), (show aa.eval (.tmp 73) = .int .i64 Wd from (hd 4 rfl))]; exact modulo_got (px + x1) Wd (by omega) (by omega) _)
    | 6, _, _ => exact op_mv rfl (hs 17 rfl)
    | 7, _, _ => exact ⟨_, op_faN1 rfl (hs 6 rfl), rfl⟩
    | 8, _, _ => exact op_ldI rfl rfl (hd 7 rfl) ((HE.out.to hb).cell 0 1 rfl rfl)
    | 9, _, _ => exact ⟨_, op_add (by unfold Fit; omega) rfl (hd 6 rfl) (hd 8 rfl), rfl⟩
    | 10, _, _ => exact op_mv rfl (hs 1 rfl)
    | 11, _, _ => exact op_call2 rfl rfl Try.call62 (by rw [(show aa.eval (.tmp 78) = .int .i64 (py + y1) from (hd 9 rfl)), (show aa.eval (.tmp 79) = .int .i64 Ht from (hd 10 rfl))]; exact modulo_got (py + y1) Ht (by omega) (by omega) _)
    | 12, _, _ => exact ⟨_, op_buN01 rfl (hd 5 rfl) (hd 11 rfl), rfl⟩
    | 13, _, h => cases h
    | qi + 14, h, _ => omega
  intro vs X14 hb hv hal hne
  have HL0 := Hd.mk (HE.out.lt)
  have HBW := HB
  replace HB := Hd.mk (bel_then HB.out hb)
  replace HE := Hd.mk (HE.out.to hb)
  have e81 : vs 81 = .agg #[.int .i64 ((px + x1) % Wd), .int .i64 ((py + y1) % Ht), .int .i64 0, .bool false] := hv 12 (by decide) rfl
  obtain ⟨g18, e18, l18, b18⟩ : ∃ g, vs 18 = .pointer (some ⟨g, 0, none⟩) ∧ _ := hal 13 rfl
  replace HE : Hd (Env X14 [⟨w.heap.size, 26, [.int .i64 x1, .int .i64 y1, .int .i64 t1, .bool f1]⟩, ⟨w.heap.size + 1, 26, [.int .i64 x2, .int .i64 y2, .int .i64 t2, .bool f2]⟩, ⟨w.heap.size + 1 + 1, 26, [.int .i64 0, .int .i64 0, .int .i64 0, .bool false]⟩, ⟨g9, 95, [.int .i64 l1.a, .int .i64 l1.b, .int .i64 l1.c, .int .i64 l1.d]⟩, ⟨g10, 95, [.int .i64 l2.a, .int .i64 l2.b, .int .i64 l2.c, .int .i64 l2.d]⟩, ⟨g15, 95, [.int .i64 lb.a, .int .i64 lb.b, .int .i64 lb.c, .int .i64 lb.d]⟩, ⟨g18, 26, [.int .i64 0, .int .i64 0, .int .i64 0, .bool false]⟩]) := ⟨Env.addne (e := ⟨g18, 26, [.int .i64 0, .int .i64 0, .int .i64 0, .bool false]⟩) HE.out b18 (fun e' he => Nat.ne_of_lt (Nat.lt_of_lt_of_le (HL0.out e' he) l18))⟩
  have G18 : Hd (w.heap.size ≤ g18) := ⟨Nat.le_trans HBW.out.size l18⟩
  simp only [PA, e81, e18]
  clear hv hal hne hb HL0 HBW e81 e18 l18 b18
  refine wpList_st rfl rfl rfl rfl rfl (sto_N (HE.out.get 6 rfl)) ?_
  have HE' : Env (putL X14 g18 0 [.int .i64 ((px + x1) % Wd), .int .i64 ((py + y1) % Ht), .int .i64 0, .bool false]) [⟨w.heap.size, 26, [.int .i64 x1, .int .i64 y1, .int .i64 t1, .bool f1]⟩, ⟨w.heap.size + 1, 26, [.int .i64 x2, .int .i64 y2, .int .i64 t2, .bool f2]⟩, ⟨w.heap.size + 1 + 1, 26, [.int .i64 0, .int .i64 0, .int .i64 0, .bool false]⟩, ⟨g9, 95, [.int .i64 l1.a, .int .i64 l1.b, .int .i64 l1.c, .int .i64 l1.d]⟩, ⟨g10, 95, [.int .i64 l2.a, .int .i64 l2.b, .int .i64 l2.c, .int .i64 l2.d]⟩, ⟨g15, 95, [.int .i64 lb.a, .int .i64 lb.b, .int .i64 lb.c, .int .i64 lb.d]⟩, ⟨g18, 26, [.int .i64 ((px + x1) % Wd), .int .i64 ((py + y1) % Ht), .int .i64 0, .bool false]⟩] := HE.out.putF 6 rfl rfl
  have HB' := putL_below (show w.heap.size ≤ g18 from G18.out) [.int .i64 ((px + x1) % Wd), .int .i64 ((py + y1) % Ht), .int .i64 0, .bool false] _ 0 HB.out
  generalize putL X14 g18 0 [.int .i64 ((px + x1) % Wd), .int .i64 ((py + y1) % Ht), .int .i64 0, .bool false] = X15 at *
  replace HE := Hd.mk HE'
  replace HB := Hd.mk HB'
  clear HE' HB'
  go_upto_region 9 with fail
  refine wp_region_vd 2 [82, 83] [0, 1] [] 84 [.int .i64 0, .int .i64 0] [isV (.agg #[.bool false, .bool true]), isV (.int .i64 0)] (by rfl) alloc_Z ?_ ?_
  · intro qi qh qA aa wx hb hs hd
    match qi, qh, qA with
    | 0, _, _ => exact .inl ⟨rfl, ⟨_, op_bu2 rfl, rfl⟩⟩
    | 1, _, _ => exact .inl ⟨rfl, op_mv rfl rfl⟩
    | qi + 2, h, _ => omega
  intro vs X16 hb hv hal hne
  replace HB := Hd.mk (bel_then HB.out hb)
  replace HE := Hd.mk (HE.out.to hb)
  have e82 : vs 82 = .agg #[.bool false, .bool true] := hv 0 (by decide) rfl
  have e83 : vs 83 = .int .i64 0 := hv 1 (by decide) rfl
  simp only [PA, e82, e83]
  clear hv hal hne hb e82 e83
  go_wp2_with fail
  go_loopw [20, 21, 83, 86] (fun s20 s21 s83 s86 wr => ∃ q : Nat, q ≤ 2 ∧ s83 = .int .i64 q ∧ Env wr [⟨w.heap.size, 26, [.int .i64 x1, .int .i64 y1, .int .i64 t1, .bool f1]⟩, ⟨w.heap.size + 1, 26, [.int .i64 x2, .int .i64 y2, .int .i64 t2, .bool f2]⟩, ⟨w.heap.size + 1 + 1, 26, [.int .i64 0, .int .i64 0, .int .i64 0, .bool false]⟩, ⟨g9, 95, [.int .i64 l1.a, .int .i64 l1.b, .int .i64 l1.c, .int .i64 l1.d]⟩, ⟨g10, 95, [.int .i64 l2.a, .int .i64 l2.b, .int .i64 l2.c, .int .i64 l2.d]⟩, ⟨g15, 95, [.int .i64 lb.a, .int .i64 lb.b, .int .i64 lb.c, .int .i64 lb.d]⟩, ⟨g18, 26, [.int .i64 ((px + x1) % Wd), .int .i64 ((py + y1) % Ht), .int .i64 (oT F N (4 * q)), .bool (oF F N (4 * q))]⟩] ∧ Below w.heap.size w wr) (fun _ _ s83 _ _ => 2 - (intOf s83).toNat)
  case atStart => exact ⟨0, by omega, rfl, by rw [(out_zero F N).1, (out_zero F N).2]; exact HE.out, HB.out⟩
  case round =>
    obtain ⟨q, hq, rfl, he, hb⟩ := hrel
    clear HB HE
    have HB := Hd.mk hb
    have HE : Hd (Env wr [⟨w.heap.size, 26, [.int .i64 x1, .int .i64 y1, .int .i64 t1, .bool f1]⟩, ⟨w.heap.size + 1, 26, [.int .i64 x2, .int .i64 y2, .int .i64 t2, .bool f2]⟩, ⟨w.heap.size + 1 + 1, 26, [.int .i64 0, .int .i64 0, .int .i64 0, .bool false]⟩, ⟨g9, 95, [.int .i64 l1.a, .int .i64 l1.b, .int .i64 l1.c, .int .i64 l1.d]⟩, ⟨g10, 95, [.int .i64 l2.a, .int .i64 l2.b, .int .i64 l2.c, .int .i64 l2.d]⟩, ⟨g15, 95, [.int .i64 lb.a, .int .i64 lb.b, .int .i64 lb.c, .int .i64 lb.d]⟩, ⟨g18, 26, [.int .i64 ((px + x1) % Wd), .int .i64 ((py + y1) % Ht), .int .i64 (oT F N (4 * q)), .bool (oF F N (4 * q))]⟩]) := ⟨he⟩
    clear he hb
    by_cases hlt : q < 2
    · go_upto_region 11 with fail
      refine wp_region_vd 1 [85] [0] [] 84 [.int .i64 0, .int .i64 0] [isV (.bool (bo q))] (by rfl) alloc_Z ?_ ?_
      · intro qi qh qA aa wx hb hs hd
        match qi, qh, qA with
        | 0, _, _ => exact .inl ⟨rfl, ⟨_, op_ix2 hlt rfl (hs 82 rfl) (hs 83 rfl), rfl⟩⟩
        | qi + 1, h, _ => omega
      intro vs X17 hb hv hal hne
      replace HB := Hd.mk (bel_then HB.out hb)
      replace HE := Hd.mk (HE.out.to hb)
      have e85 : vs 85 = .bool (bo q) := hv 0 (by decide) rfl
      simp only [PA, e85]
      clear hv hal hne hb e85
      go_upto_region 12 with fail
      refine wp_region_vd 1 [86] [0] [] 84 [.int .i64 0, .int .i64 0] [isV (.int .i64 0)] (by rfl) alloc_Z ?_ ?_
      · intro qi qh qA aa wx hb hs hd
        match qi, qh, qA with
        | 0, _, _ => exact .inl ⟨rfl, op_mv rfl rfl⟩
        | qi + 1, h, _ => omega
      intro vs X18 hb hv hal hne
      replace HB := Hd.mk (bel_then HB.out hb)
      replace HE := Hd.mk (HE.out.to hb)
      have e86 : vs 86 = .int .i64 0 := hv 0 (by decide) rfl
      simp only [PA, e86]
      clear hv hal hne hb e86
      go_wp2_with fail
      go_loopw [21, 86] (fun s21 s86 wr => ∃ r : Nat, r ≤ 4 ∧ s86 = .int .i64 r ∧ Env wr [⟨w.heap.size, 26, [.int .i64 x1, .int .i64 y1, .int .i64 t1, .bool f1]⟩, ⟨w.heap.size + 1, 26, [.int .i64 x2, .int .i64 y2, .int .i64 t2, .bool f2]⟩, ⟨w.heap.size + 1 + 1, 26, [.int .i64 0, .int .i64 0, .int .i64 0, .bool false]⟩, ⟨g9, 95, [.int .i64 l1.a, .int .i64 l1.b, .int .i64 l1.c, .int .i64 l1.d]⟩, ⟨g10, 95, [.int .i64 l2.a, .int .i64 l2.b, .int .i64 l2.c, .int .i64 l2.d]⟩, ⟨g15, 95, [.int .i64 lb.a, .int .i64 lb.b, .int .i64 lb.c, .int .i64 lb.d]⟩, ⟨g18, 26, [.int .i64 ((px + x1) % Wd), .int .i64 ((py + y1) % Ht), .int .i64 (oT F N (4 * q + r)), .bool (oF F N (4 * q + r))]⟩] ∧ Below w.heap.size w wr) (fun _ s86 _ => 4 - (intOf s86).toNat)
      case atStart => exact ⟨0, by omega, rfl, HE.out, HB.out⟩
      case round =>
        obtain ⟨r, hr, rfl, he, hb⟩ := hrel
        clear HB HE
        have HB := Hd.mk hb
        have HE : Hd (Env wr [⟨w.heap.size, 26, [.int .i64 x1, .int .i64 y1, .int .i64 t1, .bool f1]⟩, ⟨w.heap.size + 1, 26, [.int .i64 x2, .int .i64 y2, .int .i64 t2, .bool f2]⟩, ⟨w.heap.size + 1 + 1, 26, [.int .i64 0, .int .i64 0, .int .i64 0, .bool false]⟩, ⟨g9, 95, [.int .i64 l1.a, .int .i64 l1.b, .int .i64 l1.c, .int .i64 l1.d]⟩, ⟨g10, 95, [.int .i64 l2.a, .int .i64 l2.b, .int .i64 l2.c, .int .i64 l2.d]⟩, ⟨g15, 95, [.int .i64 lb.a, .int .i64 lb.b, .int .i64 lb.c, .int .i64 lb.d]⟩, ⟨g18, 26, [.int .i64 ((px + x1) % Wd), .int .i64 ((py + y1) % Ht), .int .i64 (oT F N (4 * q + r)), .bool (oF F N (4 * q + r))]⟩]) := ⟨he⟩
        clear he hb
        by_cases hlr : r < 4
        · have HLQ := Hd.mk (linEq_at (bo q) F hlr HN.out)
          rw [← HLB.out] at HLQ
          by_cases hE : (decide (bo q = F) && decide (r = N)) = true
          · go_upto_region 14 with fail
            refine wp_region_vd 1 [88] [0] [] 84 [.int .i64 0, .int .i64 0] [isV (.int .i64 (((r : Nat) : Int)))] (by rfl) alloc_Z ?_ ?_
            · intro qi qh qA aa wx hb hs hd
              match qi, qh, qA with
              | 0, _, _ => exact .inl ⟨rfl, op_mv rfl (hs 86 rfl)⟩
              | qi + 1, h, _ => omega
            intro vs X19 hb hv hal hne
            replace HB := Hd.mk (bel_then HB.out hb)
            replace HE := Hd.mk (HE.out.to hb)
            have e88 : vs 88 = .int .i64 (((r : Nat) : Int)) := hv 0 (by decide) rfl
            simp only [PA, e88]
            clear hv hal hne hb e88
            go_upto_region 15 with fail
            refine wp_region_vs 5 [89, 90, 91, 92, 93] [0, 1, 4] [] 84 [.int .i64 0, .int .i64 0] [isV (.bool (bo q)), isV (.int .i64 (((r : Nat) : Int))), isV (.agg #[.int .i64 ((lin (bo q) r).a), .int .i64 ((lin (bo q) r).b), .int .i64 ((lin (bo q) r).c), .int .i64 ((lin (bo q) r).d)]), isV (.agg #[.int .i64 lb.a, .int .i64 lb.b, .int .i64 lb.c, .int .i64 lb.d]), isV (.bool true)] (by kernel_rfl) (by kernel_rfl) (by kernel_rfl) (by rfl) alloc_Z (fun d v c a w h => by cases d <;> exact h) ?_ ?_
            · intro qi qh qA aa wx hb hs hd
              match qi, qh, qA with
              | 0, _, _ => exact op_mv rfl (hs 20 rfl)
              | 1, _, _ => exact op_mv rfl (hs 21 rfl)
              | 2, _, _ => exact op_call2 rfl rfl Try.call60 (by rw [(show aa.eval (.tmp 89) = .bool (bo q) from (hd 0 rfl)), (show aa.eval (.tmp 90) = .int .i64 (((r : Nat) : Int)) from (hd 1 rfl))]; exact rturned_n (bo q) r hlr _)
              | 3, _, _ => exact op_ldL rfl rfl (hs 15 rfl) ((HE.out.to hb).get 5 rfl)
              | 4, _, _ => exact pure_b (bool_eq (HLQ.out.trans hE)) (⟨_, op_eqlL (l := (lin (bo q) r)) (m := lb) rfl (hd 2 rfl) (hd 3 rfl), rfl⟩)
              | qi + 5, h, _ => omega
            intro vs X20 hb hv hal hne
            replace HB := Hd.mk (bel_then HB.out hb)
            replace HE := Hd.mk (HE.out.to hb)
            have e93 : vs 93 = .bool true := hv 4 (by decide) rfl
            simp only [PA, e93]
            clear hv hal hne hb e93
            go_upto_region 16 with fail
            refine wp_region_vd 2 [94, 95] [0, 1] [] 84 [.int .i64 0, .int .i64 0] [isV (.bool (bo q)), isV (.pointer (some ⟨g18, 3, none⟩))] (by rfl) alloc_Z ?_ ?_
            · intro qi qh qA aa wx hb hs hd
              match qi, qh, qA with
              | 0, _, _ => exact .inl ⟨rfl, op_mv rfl (hs 20 rfl)⟩
              | 1, _, _ => exact .inl ⟨rfl, ⟨_, op_faN3 rfl (hs 18 rfl), rfl⟩⟩
              | qi + 2, h, _ => omega
            intro vs X21 hb hv hal hne
            replace HB := Hd.mk (bel_then HB.out hb)
            replace HE := Hd.mk (HE.out.to hb)
            have e95 : vs 95 = .pointer (some ⟨g18, 3, none⟩) := hv 1 (by decide) rfl
            have e94 : vs 94 = .bool (bo q) := hv 0 (by decide) rfl
            simp only [PA, e95, e94]
            clear hv hal hne hb e95 e94
            refine wpList_st rfl rfl rfl rfl rfl (sto_B (HE.out.get 6 rfl) rfl) ?_
            have HE' : Env (putL X21 g18 3 [.bool (bo q)]) [⟨w.heap.size, 26, [.int .i64 x1, .int .i64 y1, .int .i64 t1, .bool f1]⟩, ⟨w.heap.size + 1, 26, [.int .i64 x2, .int .i64 y2, .int .i64 t2, .bool f2]⟩, ⟨w.heap.size + 1 + 1, 26, [.int .i64 0, .int .i64 0, .int .i64 0, .bool false]⟩, ⟨g9, 95, [.int .i64 l1.a, .int .i64 l1.b, .int .i64 l1.c, .int .i64 l1.d]⟩, ⟨g10, 95, [.int .i64 l2.a, .int .i64 l2.b, .int .i64 l2.c, .int .i64 l2.d]⟩, ⟨g15, 95, [.int .i64 lb.a, .int .i64 lb.b, .int .i64 lb.c, .int .i64 lb.d]⟩, ⟨g18, 26, [.int .i64 ((px + x1) % Wd), .int .i64 ((py + y1) % Ht), .int .i64 (oT F N (4 * q + r)), .bool (bo q)]⟩] := HE.out.putO 6 rfl
            have HB' := putL_below (show w.heap.size ≤ g18 from G18.out) [.bool (bo q)] _ 3 HB.out
            generalize putL X21 g18 3 [.bool (bo q)] = X22 at *
            replace HE := Hd.mk HE'
            replace HB := Hd.mk HB'
            clear HE' HB'
            go_upto_region 17 with fail
            refine wp_region_vd 2 [96, 97] [0, 1] [] 84 [.int .i64 0, .int .i64 0] [isV (.int .i64 (((r : Nat) : Int))), isV (.pointer (some ⟨g18, 2, none⟩))] (by rfl) alloc_Z ?_ ?_
            · intro qi qh qA aa wx hb hs hd
              match qi, qh, qA with
              | 0, _, _ => exact .inl ⟨rfl, op_mv rfl (hs 21 rfl)⟩
              | 1, _, _ => exact .inl ⟨rfl, ⟨_, op_faN2 rfl (hs 18 rfl), rfl⟩⟩
              | qi + 2, h, _ => omega
            intro vs X23 hb hv hal hne
            replace HB := Hd.mk (bel_then HB.out hb)
            replace HE := Hd.mk (HE.out.to hb)
            have e97 : vs 97 = .pointer (some ⟨g18, 2, none⟩) := hv 1 (by decide) rfl
            have e96 : vs 96 = .int .i64 (((r : Nat) : Int)) := hv 0 (by decide) rfl
            simp only [PA, e97, e96]
            clear hv hal hne hb e97 e96
            refine wpList_st rfl rfl rfl rfl rfl (sto_I (HE.out.get 6 rfl) rfl) ?_
            have HE' : Env (putL X23 g18 2 [.int .i64 (((r : Nat) : Int))]) [⟨w.heap.size, 26, [.int .i64 x1, .int .i64 y1, .int .i64 t1, .bool f1]⟩, ⟨w.heap.size + 1, 26, [.int .i64 x2, .int .i64 y2, .int .i64 t2, .bool f2]⟩, ⟨w.heap.size + 1 + 1, 26, [.int .i64 0, .int .i64 0, .int .i64 0, .bool false]⟩, ⟨g9, 95, [.int .i64 l1.a, .int .i64 l1.b, .int .i64 l1.c, .int .i64 l1.d]⟩, ⟨g10, 95, [.int .i64 l2.a, .int .i64 l2.b, .int .i64 l2.c, .int .i64 l2.d]⟩, ⟨g15, 95, [.int .i64 lb.a, .int .i64 lb.b, .int .i64 lb.c, .int .i64 lb.d]⟩, ⟨g18, 26, [.int .i64 ((px + x1) % Wd), .int .i64 ((py + y1) % Ht), .int .i64 (((r : Nat) : Int)), .bool (bo q)]⟩] := HE.out.putO 6 rfl
            have HB' := putL_below (show w.heap.size ≤ g18 from G18.out) [.int .i64 (((r : Nat) : Int))] _ 2 HB.out
            generalize putL X23 g18 2 [.int .i64 (((r : Nat) : Int))] = X24 at *
            replace HE := Hd.mk HE'
            replace HB := Hd.mk HB'
            clear HE' HB'
            go_wp2_with fail
            go_roundw
            case rel => exact ⟨r + 1, by omega, by go_num, by rw [(out_hit hlt hE).1, (out_hit hlt hE).2]; exact HE.out, HB.out⟩
            case measure => simp [intOf]; omega
          have hE' : (decide (bo q = F) && decide (r = N)) = false := by simpa using hE
          go_upto_region 14 with fail
          refine wp_region_vd 1 [88] [0] [] 84 [.int .i64 0, .int .i64 0] [isV (.int .i64 (((r : Nat) : Int)))] (by rfl) alloc_Z ?_ ?_
          · intro qi qh qA aa wx hb hs hd
            match qi, qh, qA with
            | 0, _, _ => exact .inl ⟨rfl, op_mv rfl (hs 86 rfl)⟩
            | qi + 1, h, _ => omega
          intro vs X19 hb hv hal hne
          replace HB := Hd.mk (bel_then HB.out hb)
          replace HE := Hd.mk (HE.out.to hb)
          have e88 : vs 88 = .int .i64 (((r : Nat) : Int)) := hv 0 (by decide) rfl
          simp only [PA, e88]
          clear hv hal hne hb e88
          go_upto_region 15 with fail
          refine wp_region_vs 5 [89, 90, 91, 92, 93] [0, 1, 4] [] 84 [.int .i64 0, .int .i64 0] [isV (.bool (bo q)), isV (.int .i64 (((r : Nat) : Int))), isV (.agg #[.int .i64 ((lin (bo q) r).a), .int .i64 ((lin (bo q) r).b), .int .i64 ((lin (bo q) r).c), .int .i64 ((lin (bo q) r).d)]), isV (.agg #[.int .i64 lb.a, .int .i64 lb.b, .int .i64 lb.c, .int .i64 lb.d]), isV (.bool false)] (by kernel_rfl) (by kernel_rfl) (by kernel_rfl) (by rfl) alloc_Z (fun d v c a w h => by cases d <;> exact h) ?_ ?_
          · intro qi qh qA aa wx hb hs hd
            match qi, qh, qA with
            | 0, _, _ => exact op_mv rfl (hs 20 rfl)
            | 1, _, _ => exact op_mv rfl (hs 21 rfl)
            | 2, _, _ => exact op_call2 rfl rfl Try.call60 (by rw [(show aa.eval (.tmp 89) = .bool (bo q) from (hd 0 rfl)), (show aa.eval (.tmp 90) = .int .i64 (((r : Nat) : Int)) from (hd 1 rfl))]; exact rturned_n (bo q) r hlr _)
            | 3, _, _ => exact op_ldL rfl rfl (hs 15 rfl) ((HE.out.to hb).get 5 rfl)
            | 4, _, _ => exact pure_b (bool_eq (HLQ.out.trans hE')) (⟨_, op_eqlL (l := (lin (bo q) r)) (m := lb) rfl (hd 2 rfl) (hd 3 rfl), rfl⟩)
            | qi + 5, h, _ => omega
          intro vs X20 hb hv hal hne
          replace HB := Hd.mk (bel_then HB.out hb)
          replace HE := Hd.mk (HE.out.to hb)
          have e93 : vs 93 = .bool false := hv 4 (by decide) rfl
          simp only [PA, e93]
          clear hv hal hne hb e93
          go_wp2_with fail
          go_roundw
          case rel => exact ⟨r + 1, by omega, by go_num, by rw [(out_miss HN.out hlr hlt hE').1, (out_miss HN.out hlr hlt hE').2]; exact HE.out, HB.out⟩
          case measure => simp [intOf]; omega
        obtain rfl : r = 4 := by omega
        go_wp2_with fail
        go_roundw
        case rel => exact ⟨q + 1, by omega, by go_num, HE.out, HB.out⟩
        case measure => simp [intOf]; omega
    obtain rfl : q = 2 := by omega
    have HE2 : Env wr [⟨w.heap.size, 26, [.int .i64 x1, .int .i64 y1, .int .i64 t1, .bool f1]⟩, ⟨w.heap.size + 1, 26, [.int .i64 x2, .int .i64 y2, .int .i64 t2, .bool f2]⟩, ⟨w.heap.size + 1 + 1, 26, [.int .i64 0, .int .i64 0, .int .i64 0, .bool false]⟩, ⟨g9, 95, [.int .i64 l1.a, .int .i64 l1.b, .int .i64 l1.c, .int .i64 l1.d]⟩, ⟨g10, 95, [.int .i64 l2.a, .int .i64 l2.b, .int .i64 l2.c, .int .i64 l2.d]⟩, ⟨g15, 95, [.int .i64 lb.a, .int .i64 lb.b, .int .i64 lb.c, .int .i64 lb.d]⟩, ⟨g18, 26, [.int .i64 ((px + x1) % Wd), .int .i64 ((py + y1) % Ht), .int .i64 ((N : Int)), .bool F]⟩] := by have z := HE.out; rw [(out_all F HN.out).1, (out_all F HN.out).2] at z; exact z
    replace HE := Hd.mk HE2
    clear HE2
    go_upto_region 20 with fail
    refine wp_region_vd 1 [100] [] [] 84 [.int .i64 0, .int .i64 0] [isV (.agg #[.int .i64 ((px + x1) % Wd), .int .i64 ((py + y1) % Ht), .int .i64 ((N : Int)), .bool F])] (by rfl) alloc_Z ?_ ?_
    · intro qi qh qA aa wx hb hs hd
      match qi, qh, qA with
      | 0, _, _ => exact .inl ⟨rfl, op_ldN rfl rfl (hs 18 rfl) ((HE.out.to hb).get 6 rfl)⟩
      | qi + 1, h, _ => omega
    intro vs X39 hb hv hal hne
    replace HB := Hd.mk (bel_then HB.out hb)
    replace HE := Hd.mk (HE.out.to hb)
    have e100 : vs 100 = .agg #[.int .i64 ((px + x1) % Wd), .int .i64 ((py + y1) % Ht), .int .i64 ((N : Int)), .bool F] := hv 0 (by decide) rfl
    simp only [PA, e100]
    clear hv hal hne hb e100
    refine wpList_st rfl rfl rfl rfl rfl (sto_N (HE.out.get 2 rfl)) ?_
    have HE' : Env (putL X39 (w.heap.size + 1 + 1) 0 [.int .i64 ((px + x1) % Wd), .int .i64 ((py + y1) % Ht), .int .i64 ((N : Int)), .bool F]) [⟨w.heap.size, 26, [.int .i64 x1, .int .i64 y1, .int .i64 t1, .bool f1]⟩, ⟨w.heap.size + 1, 26, [.int .i64 x2, .int .i64 y2, .int .i64 t2, .bool f2]⟩, ⟨w.heap.size + 1 + 1, 26, [.int .i64 ((px + x1) % Wd), .int .i64 ((py + y1) % Ht), .int .i64 ((N : Int)), .bool F]⟩, ⟨g9, 95, [.int .i64 l1.a, .int .i64 l1.b, .int .i64 l1.c, .int .i64 l1.d]⟩, ⟨g10, 95, [.int .i64 l2.a, .int .i64 l2.b, .int .i64 l2.c, .int .i64 l2.d]⟩, ⟨g15, 95, [.int .i64 lb.a, .int .i64 lb.b, .int .i64 lb.c, .int .i64 lb.d]⟩, ⟨g18, 26, [.int .i64 ((px + x1) % Wd), .int .i64 ((py + y1) % Ht), .int .i64 ((N : Int)), .bool F]⟩] := HE.out.putF 2 rfl rfl
    have HB' := putL_below (show w.heap.size ≤ w.heap.size + 1 + 1 from by omega) [.int .i64 ((px + x1) % Wd), .int .i64 ((py + y1) % Ht), .int .i64 ((N : Int)), .bool F] _ 0 HB.out
    generalize putL X39 (w.heap.size + 1 + 1) 0 [.int .i64 ((px + x1) % Wd), .int .i64 ((py + y1) % Ht), .int .i64 ((N : Int)), .bool F] = X40 at *
    replace HE := Hd.mk HE'
    replace HB := Hd.mk HB'
    clear HE' HB'
    go_wp2_with fail
    have k0a := HE.out.cell 2 0 rfl rfl
    have k0b := HE.out.cell 2 1 rfl rfl
    have k0c := HE.out.cell 2 2 rfl rfl
    have k0d := HE.out.cell 2 3 rfl rfl
    refine bodyPost_ret (v := .agg #[.int .i64 ((px + x1) % Wd), .int .i64 ((py + y1) % Ht), .int .i64 ((N : Int)), .bool F]) (by simp [results, Try.results28, go_sem, k0a, k0b, k0c, k0d]) rfl ?_
    exact ⟨_, rfl, HB.out, rfl⟩
theorem rAfter_got {W H : Int} {m n : Mv} (h : Al W H m) (k : Al W H n) (w : World) : Calls Try.prog 28 #[.int .i64 W, .int .i64 H, .agg #[.int .i64 m.x, .int .i64 m.y, .int .i64 m.t, .bool m.f], .agg #[.int .i64 n.x, .int .i64 n.y, .int .i64 n.t, .bool n.f]] w
    (Got w (isV (.agg #[.int .i64 (aftM W H m n).x, .int .i64 (aftM W H m n).y, .int .i64 (aftM W H m n).t, .bool (aftM W H m n).f])).p) := by
  have h1 := h.t
  have k1 := k.t
  have hw := h.w
  have hh := h.h
  have hx := h.x
  have hy := h.y
  have kx := k.x
  have ky := k.y
  have e := lin_trn m.f n.x n.y m.t.toNat
  rw [Prod.mk.injEq] at e
  have tb := trn_bound m.f (x := n.x) (y := n.y) (b := 8) (by omega) (by omega) m.t.toNat
  have ht := (aft_al h k).t
  have hn := turn_nat h k
  have hc := lin_comp m.f n.f ⟨m.t.toNat, by omega⟩ ⟨n.t.toNat, by omega⟩
  have r := rAfter_l W H m.x m.y m.t n.x n.y n.t (trn m.f n.x n.y m.t.toNat).1 (trn m.f n.x n.y m.t.toNat).2 m.f n.f (m.f != n.f) ((m.t.toNat + if m.f = true then 4 - n.t.toNat else n.t.toNat) % 4) (lin m.f m.t.toNat) (lin n.f n.t.toNat) _ w
    (fun W => rturned_got m.f m.t h1 W) (fun W => rturned_got n.f n.t k1 W) (lin_bound _ _) (lin_bound _ _) hc e (Nat.mod_lt _ (by omega)) rfl hw hh (by omega) (by omega) (by omega) (by omega) tb.1 tb.2
  rw [← hn, Int.toNat_of_nonneg ht.1] at r
  exact r
end Go.Proofs.Ytddbmckbankmeaa
