/- Part 25 of the texts behind this claim. -/
import Derived.Test.YtcjcpfafalkceaaFq19
import Derived.Test.YtcjcpfafalkceaaFq24
set_option linter.unusedVariables false
set_option linter.unusedSimpArgs false
namespace Go.Proofs.Ytcjcpfafalkceaa
open Go.RowKit
section
variable {P : Program} {Q : Exit → Act → World → Prop} {ops : Array Oper} {o : Oper} {rest : List Oper} {a : Act} {w w' : World} {T : TypeId} {x y : Operand} {p v : Value}
theorem wpList_st (hg : o.guard = none) (hd : o.dst = none) (ho : o.op = .store T x y) (hx : a.eval x = p) (hy : a.eval y = v)
    (hs : (Instr.storeAt T p v).run P w = .ok () w') (h : wpList P ops Q rest a w') : wpList P ops Q (o :: rest) a w := by
  unfold wpList
  rw [if_pos (by simp [Region.wanted, hg])]
  refine .inl ?_
  unfold Oper.wp execOp
  simp only [ho, hx, hy, Sem.run_bind, hs, Result.andThen_ok, Sem.run_pure, Oper.upon, hd, Act.put]
  exact h
end
section
variable {w : World} {g o : Nat} {t : TypeId} {x y u v u' v' : Value} {c c' d d' : CP} {l : List CP} {vs : List Value}
theorem cell_of {i : Nat} {k : Value} (hb : Blk w g t vs) (h : vs[i]? = some k) : w.cell? ⟨g, i, none⟩ = some k := (hb.cell i).trans h
theorem st_I (hc : c.p u v w) (h0 : w.cell? ⟨g, o, none⟩ = some x) (h1 : w.cell? ⟨g, o + 1, none⟩ = some y) (f0 : w.frozen? ⟨g, o, none⟩ = false) (f1 : w.frozen? ⟨g, o + 1, none⟩ = false) :
    (Instr.storeAt 24 (.pointer (some ⟨g, o, none⟩)) (.agg #[u, v])).run Try.prog w = .ok () (putAt w g o u v) := by
  obtain ⟨b, A, l, c, rfl, rfl⟩ := c.nb _ _ _ hc
  unfold putAt
  simp [go_sem, h0, h1, f0, f1]
theorem sto_I (hc : c.p u v w) (s : Slot l o) (k : HL w g t l) : (Instr.storeAt 24 (.pointer (some ⟨g, o, none⟩)) (.agg #[u, v])).run Try.prog w = .ok () (putAt w g o u v) := by
  obtain ⟨vs, x, y, hb, _, h0, h1⟩ := s.at_ k
  exact st_I hc (cell_of hb h0) (cell_of hb h1) (hb.frozen _) (hb.frozen _)
theorem st_W (hc : c.p u v w) (h0 : w.cell? ⟨g, o, none⟩ = some x) (h1 : w.cell? ⟨g, o + 1, none⟩ = some y) (f0 : w.frozen? ⟨g, o, none⟩ = false) (f1 : w.frozen? ⟨g, o + 1, none⟩ = false) :
    (Instr.storeAt 70 (.pointer (some ⟨g, o, none⟩)) (.agg #[u, v])).run Try.prog w = .ok () (putAt w g o u v) := by
  obtain ⟨b, A, l, c, rfl, rfl⟩ := c.nb _ _ _ hc
  unfold putAt
  simp [go_sem, h0, h1, f0, f1]
theorem sto_W (hc : c.p u v w) (s : Slot l o) (k : HL w g t l) : (Instr.storeAt 70 (.pointer (some ⟨g, o, none⟩)) (.agg #[u, v])).run Try.prog w = .ok () (putAt w g o u v) := by
  obtain ⟨vs, x, y, hb, _, h0, h1⟩ := s.at_ k
  exact st_W hc (cell_of hb h0) (cell_of hb h1) (hb.frozen _) (hb.frozen _)
theorem st_Z (hc : c.p u v w) (h0 : w.cell? ⟨g, o, none⟩ = some x) (h1 : w.cell? ⟨g, o + 1, none⟩ = some y) (f0 : w.frozen? ⟨g, o, none⟩ = false) (f1 : w.frozen? ⟨g, o + 1, none⟩ = false) :
    (Instr.storeAt 38 (.pointer (some ⟨g, o, none⟩)) (.agg #[u, v])).run Try.prog w = .ok () (putAt w g o u v) := by
  obtain ⟨b, A, l, c, rfl, rfl⟩ := c.nb _ _ _ hc
  unfold putAt
  simp [go_sem, h0, h1, f0, f1]
theorem sto_Z (hc : c.p u v w) (s : Slot l o) (k : HL w g t l) : (Instr.storeAt 38 (.pointer (some ⟨g, o, none⟩)) (.agg #[u, v])).run Try.prog w = .ok () (putAt w g o u v) := by
  obtain ⟨vs, x, y, hb, _, h0, h1⟩ := s.at_ k
  exact st_Z hc (cell_of hb h0) (cell_of hb h1) (hb.frozen _) (hb.frozen _)
theorem sto_R (hc : c.p u v w) (hc' : c'.p u' v' w) (k : HL w g t [d, d']) : (Instr.storeAt 58 (.pointer (some ⟨g, 0, none⟩)) (.agg #[u, v, u', v'])).run Try.prog w = .ok () (putAt (putAt w g 0 u v) g 2 u' v') := by
  obtain ⟨a0, a1, a2, a3, hb, _, _⟩ := k.two
  have h0 := hb.cell 0
  have h1 := hb.cell 1
  have h2 := hb.cell 2
  have h3 := hb.cell 3
  have f0 := hb.frozen 0
  have f1 := hb.frozen 1
  have f2 := hb.frozen 2
  have f3 := hb.frozen 3
  simp at h0 h1 h2 h3
  obtain ⟨b, A, l, cc, rfl, rfl⟩ := c.nb _ _ _ hc
  obtain ⟨b', A', l', cc', rfl, rfl⟩ := c'.nb _ _ _ hc'
  unfold putAt
  simp [go_sem, h0, h1, h2, h3, f0, f1, f2, f3]
theorem sto_Q (hc : c.p u v w) (hc' : c'.p u' v' w) (k : HL w g t [d, d']) : (Instr.storeAt 103 (.pointer (some ⟨g, 0, none⟩)) (.agg #[u, v, u', v'])).run Try.prog w = .ok () (putAt (putAt w g 0 u v) g 2 u' v') := by
  obtain ⟨a0, a1, a2, a3, hb, _, _⟩ := k.two
  have h0 := hb.cell 0
  have h1 := hb.cell 1
  have h2 := hb.cell 2
  have h3 := hb.cell 3
  have f0 := hb.frozen 0
  have f1 := hb.frozen 1
  have f2 := hb.frozen 2
  have f3 := hb.frozen 3
  simp at h0 h1 h2 h3
  obtain ⟨b, A, l, cc, rfl, rfl⟩ := c.nb _ _ _ hc
  obtain ⟨b', A', l', cc', rfl, rfl⟩ := c'.nb _ _ _ hc'
  unfold putAt
  simp [go_sem, h0, h1, h2, h3, f0, f1, f2, f3]
theorem sto_S (hc : c.p u v w) (hc' : c'.p u' v' w) (k : HL w g t [d, d']) : (Instr.storeAt 109 (.pointer (some ⟨g, 0, none⟩)) (.agg #[u, v, u', v'])).run Try.prog w = .ok () (putAt (putAt w g 0 u v) g 2 u' v') := by
  obtain ⟨a0, a1, a2, a3, hb, _, _⟩ := k.two
  have h0 := hb.cell 0
  have h1 := hb.cell 1
  have h2 := hb.cell 2
  have h3 := hb.cell 3
  have f0 := hb.frozen 0
  have f1 := hb.frozen 1
  have f2 := hb.frozen 2
  have f3 := hb.frozen 3
  simp at h0 h1 h2 h3
  obtain ⟨b, A, l, cc, rfl, rfl⟩ := c.nb _ _ _ hc
  obtain ⟨b', A', l', cc', rfl, rfl⟩ := c'.nb _ _ _ hc'
  unfold putAt
  simp [go_sem, h0, h1, h2, h3, f0, f1, f2, f3]
theorem alloc_R (w : World) : (Instr.alloc 58 true (.tuple #[])).run Try.prog w = .ok (.pointer (some ⟨w.heap.size, 0, none⟩)) (w.alloc (.cells [.bool false, .slice none 0 0, .bool false, .slice none 0 0].toArray 58)) := by
  simp [go_sem]
end
section
variable {w w' : World} {L : List Ent} {i g : Nat} {t : TypeId} {c c' d d' : CP} {u v u' v' : Value}
theorem Env.put4 (i : Nat) (h : Env w L) (hi : L[i]? = some ⟨g, t, [c, d]⟩) (hc : c'.p u v w) (hd : d'.p u' v' w) : Env (putAt (putAt w g 0 u v) g 2 u' v') (L.set i ⟨g, t, [c', d']⟩) := by
  have k := h.get i hi
  have h1 := h.put20 i hi hc
  have hd' := cp_at hd (u := u) (v := v) (.left c d) k
  have hi1 : (L.set i ⟨g, t, [c', d]⟩)[i]? = some ⟨g, t, [c', d]⟩ := by
    have hlt : i < L.length := (List.getElem?_eq_some_iff.1 hi).1
    simp [hlt]
  have h2 := h1.put22 i hi1 hd'
  rwa [List.set_set] at h2
theorem below_put4 {B : Nat} {w0 : World} (hb : Below B w0 w) (hg : B ≤ g) : Below B w0 (putAt (putAt w g 0 u v) g 2 u' v') := below_putAt (below_putAt hb hg) hg
end
theorem ln_zmul (x y : Int) : ln (x * y).natAbs ≤ ln x.natAbs + ln y.natAbs := by rw [Int.natAbs_mul]; exact ln_mul _ _
theorem ln_zadd (x y : Int) : ln (x + y).natAbs ≤ max (ln x.natAbs) (ln y.natAbs) + 1 := Nat.le_trans (ln_mono (Int.natAbs_add_le x y)) (ln_add _ _)
theorem ln_zneg (x : Int) : ln (-x).natAbs = ln x.natAbs := by rw [Int.natAbs_neg]
theorem ln_qn (n d : Int) : ln (qn n d).natAbs ≤ ln n.natAbs := ln_mono (qn_le n d)
theorem ln_qd (n d : Int) : ln (qd n d).natAbs ≤ ln d.natAbs := by
  by_cases h : d = 0
  · have h2 := qd_mul n d
    subst h
    unfold qd
    rw [show ((Int.natAbs 0 : Nat) : Int) = 0 from rfl, Int.zero_ediv]
    exact Nat.le_refl _
  · exact ln_mono (qd_le n h)
section
variable {w : World} {v1 v2 : Value}
theorem wmul_got (x y : Int) (v1 v2 : Value) (w : World) (h1 : (isZ x).p v1 w) (h2 : (isZ y).p v2 w) (l1 : ln x.natAbs ≤ 268435456) (l2 : ln y.natAbs ≤ 268435456) : Calls Try.prog 67 #[v1, v2] w (Got w (isZ (x * y)).p) :=
  z2 (fun A1 c1 A2 c2 h1 h2 => wmul_calls x y A1 c1 A2 c2 _ h1 h2 l1 l2) (fun e w' h => h.got) h1 h2
theorem wadd_got (x y : Int) (v1 v2 : Value) (w : World) (h1 : (isZ x).p v1 w) (h2 : (isZ y).p v2 w) (l1 : ln x.natAbs ≤ 1073741824) (l2 : ln y.natAbs ≤ 1073741824) : Calls Try.prog 64 #[v1, v2] w (Got w (isZ (x + y)).p) :=
  z2 (fun A1 c1 A2 c2 h1 h2 => wadd_calls x y A1 c1 A2 c2 _ h1 h2 l1 l2) (fun e w' h => h.got) h1 h2
theorem rTimes_got (x y : Int) (v1 v2 : Value) (w : World) (h1 : (isZ x).p v1 w) (h2 : (isZ y).p v2 w) (l1 : ln x.natAbs ≤ 268435456) (l2 : ln y.natAbs ≤ 268435456) : Calls Try.prog 31 #[v1, v2] w (Got w (isZ (x * y)).p) :=
  z2 (fun A1 c1 A2 c2 h1 h2 => rTimes_calls x y A1 c1 A2 c2 _ h1 h2 l1 l2) (fun e w' h => h.got) h1 h2
theorem rPlus_got (x y : Int) (v1 v2 : Value) (w : World) (h1 : (isZ x).p v1 w) (h2 : (isZ y).p v2 w) (l1 : ln x.natAbs ≤ 1073741824) (l2 : ln y.natAbs ≤ 1073741824) : Calls Try.prog 33 #[v1, v2] w (Got w (isZ (x + y)).p) :=
  z2 (fun A1 c1 A2 c2 h1 h2 => rPlus_calls x y A1 c1 A2 c2 _ h1 h2 l1 l2) (fun e w' h => h.got) h1 h2
theorem rCommon_got (x y : Int) (v1 v2 : Value) (w : World) (h1 : (isZ x).p v1 w) (h2 : (isZ y).p v2 w) (l1 : ln x.natAbs ≤ 268435456) (l2 : ln y.natAbs ≤ 268435456) : Calls Try.prog 96 #[v1, v2] w (Got w (isZ (zgcd x y)).p) :=
  z2 (fun A1 c1 A2 c2 h1 h2 => rCommon_calls x y A1 c1 A2 c2 _ h1 h2 l1 l2) (fun e w' h => h.got) h1 h2
theorem wcmp_got (x y : Int) (v1 v2 : Value) (w : World) (h1 : (isZ x).p v1 w) (h2 : (isZ y).p v2 w) : Calls Try.prog 74 #[v1, v2] w (Got w (isV (.int .i64 (sgnv (x - y)))).p) :=
  z2 (fun A1 c1 A2 c2 h1 h2 => wcmp_calls x y A1 c1 A2 c2 _ h1 h2) (fun e w' h => same_got h) h1 h2
theorem rOrd_got (x y : Int) (v1 v2 : Value) (w : World) (h1 : (isZ x).p v1 w) (h2 : (isZ y).p v2 w) (l1 : ln x.natAbs ≤ 1073741824) (l2 : ln y.natAbs ≤ 1073741824) : Calls Try.prog 34 #[v1, v2] w (Got w (isV (.int .i64 (sgnv (x - y)))).p) :=
  z2 (fun A1 c1 A2 c2 h1 h2 => rOrder_calls x y A1 c1 A2 c2 _ h1 h2 l1 l2) (fun e w' h => same_got h) h1 h2
theorem wdiv_got (x y : Int) (hy : y ≠ 0) (v1 v2 : Value) (w : World) (h1 : (isZ x).p v1 w) (h2 : (isZ y).p v2 w) (l1 : ln x.natAbs ≤ 268435456) (l2 : ln y.natAbs ≤ 268435456) : Calls Try.prog 90 #[v1, v2] w (Got w (isZZ (x / y) (x % y)).p) :=
  z2 (fun A1 c1 A2 c2 h1 h2 => wdiv_calls x y A1 c1 A2 c2 _ h1 h2 hy l1 l2) (fun e w' h => h.got) h1 h2
theorem rExactly_got (x y : Int) (hy : y ≠ 0) (v1 v2 : Value) (w : World) (h1 : (isZ x).p v1 w) (h2 : (isZ y).p v2 w) (l1 : ln x.natAbs ≤ 268435456) (l2 : ln y.natAbs ≤ 268435456) : Calls Try.prog 97 #[v1, v2] w (Got w (isZ (x / y)).p) :=
  z2 (fun A1 c1 A2 c2 h1 h2 => rExactly_calls x y A1 c1 A2 c2 _ h1 h2 hy l1 l2) (fun e w' h => h.got) h1 h2
theorem wminus_got (x : Int) (v1 : Value) (w : World) (h1 : (isZ x).p v1 w) : Calls Try.prog 92 #[v1] w (Got w (isZ (-x)).p) := by
  obtain ⟨A, c, rfl, hn⟩ := h1
  exact (minus_calls x A c w hn).mono fun e w' ⟨he, hb⟩ => ⟨_, he, hb, A, c, by rw [Int.natAbs_neg], by rw [Int.natAbs_neg]; exact hn.to hb⟩
theorem rMinus_got (x : Int) (v1 : Value) (w : World) (h1 : (isZ x).p v1 w) : Calls Try.prog 46 #[v1] w (Got w (isZ (-x)).p) := by
  obtain ⟨A, c, rfl, hn⟩ := h1
  exact (rMinus_calls x A c w hn).mono fun e w' ⟨he, hb⟩ => ⟨_, he, hb, A, c, by rw [Int.natAbs_neg], by rw [Int.natAbs_neg]; exact hn.to hb⟩
theorem value_got (x : Int) (v1 : Value) (w : World) (h1 : (isZ x).p v1 w) (l1 : ln x.natAbs ≤ 1073741824) : Calls Try.prog 72 #[v1] w (Got w (isZ x).p) :=
  z1 (fun A1 c1 h1 => value_calls x A1 c1 _ h1 l1) (fun e w' h => h.got) h1
theorem of_got (x : Int) (v1 : Value) (w : World) (h1 : (isZ x).p v1 w) : Calls Try.prog 69 #[v1] w (Got w (isZ x).p) := z1_same (fun A1 c1 => of_calls _ _ _ _ _) h1
theorem rOf_got (x : Int) (v1 : Value) (w : World) (h1 : (isZ x).p v1 w) : Calls Try.prog 32 #[v1] w (Got w (isZ x).p) := z1_same (fun A1 c1 => rOf_calls _ _ _ _ _) h1
theorem rInt_got (x : Int) (v1 : Value) (w : World) (h1 : (isZ x).p v1 w) : Calls Try.prog 23 #[v1] w (Got w (isZ x).p) := z1_same (fun A1 c1 => rInt_calls _ _ _ _ _) h1
theorem rFits_got (x : Int) (v1 : Value) (w : World) (h1 : (isZ x).p v1 w) (l1 : ln x.natAbs ≤ 1073741824) : Calls Try.prog 86 #[v1] w (Got w (isV (.bool (decide (ln x.natAbs ≤ 256)))).p) :=
  z1 (fun A1 c1 h1 => rFits_calls _ A1 _ c1 _ (by omega)) (fun e w' h => same_got h) h1
theorem rSign_got (x : Int) (v1 : Value) (w : World) (h1 : (isZ x).p v1 w) (l1 : ln x.natAbs ≤ 1073741824) : Calls Try.prog 43 #[v1] w (Got w (isV (.int .i64 (sgnv x))).p) :=
  z1 (fun A1 c1 h1 => rSign_calls _ A1 c1 _ (by omega)) (fun e w' h => same_got h) h1
theorem ngcd_got (m n : Nat) (v1 v2 : Value) (w : World) (h1 : (isN m).p v1 w) (h2 : (isN n).p v2 w) (l1 : ln m ≤ 268435456) (l2 : ln n ≤ 268435456) : Calls Try.prog 91 #[v1, v2] w (Got w (isN (Nat.gcd m n)).p) :=
  n2 (fun A1 c1 A2 c2 h1 h2 => gcd_calls A1 c1 m A2 c2 n _ h1 h2 l1 l2) (fun e w' h => h.got) h1 h2
theorem nzero_got (m : Nat) (v1 : Value) (w : World) (h1 : (isN m).p v1 w) (l1 : ln m ≤ 1073741824) : Calls Try.prog 89 #[v1] w (Got w (isV (.bool (decide (m = 0)))).p) := by
  have e : decide (m = 0) = decide (ln m = 0) := decide_eq_decide.2 ln_eq_zero.symm
  rw [e]
  exact n1 (fun A1 c1 h1 => zero_calls A1 (ln m) c1 _ (by omega)) (fun e w' h => eq_got h) h1
theorem same_zz (x y : Int) (v1 v2 : Value) (w : World) (h1 : (isZ x).p v1 w) (h2 : (isZ y).p v2 w) : Calls Try.prog 14 #[v1, v2] w (Got w (isV (.bool (decide (x = y)))).p) :=
  z2 (fun A1 c1 A2 c2 h1 h2 => same_calls x y A1 c1 A2 c2 _ h1 h2) (fun e w' h => same_got h) h1 h2
theorem rvalid_raw (r : Raw) (v1 : Value) (w : World) (h1 : (isL [rC r]).p v1 w) : Calls Try.prog 22 #[v1] w (Got w (isV (.bool r.ok)).p) := by
  obtain ⟨x, y, rfl, rfl, rfl, h⟩ := isL_one.1 h1
  exact (rvalid_calls r _ h).mono fun e w' h => same_got h
theorem rC_zC {r : Raw} {u v : Value} {w : World} (ho : r.ok = true) (h : (rC r).p u v w) : (zC r.val).p u v w := by
  obtain ⟨rfl, rfl, ha⟩ := h
  have h1 := Raw.num ho ha.2.1
  refine ⟨r.A, r.c, ?_, ?_, Raw.nn ho ha⟩
  · rw [Raw.ok_neg ho ha.2.1]
  · rw [h1.2]
end
def isP (s t : SP) : SP := ⟨fun v w => ∃ x y, v = .tuple #[x, y] ∧ s.p x w ∧ t.p y w, fun v w w' ⟨x, y, h, h1, h2⟩ hb => ⟨x, y, h, s.st _ _ _ h1 hb, t.st _ _ _ h2 hb⟩⟩
section
variable {P : Program} {o : Oper} {a : Act} {w : World} {s t : SP} {x : Operand}
theorem op_fst (ho : o.op = .extract x 0) (hx : (isP s t).p (a.eval x) w) : ∃ v, (∀ w, (execOp a.eval o).run P w = .ok (.value v) w) ∧ s.p v w := by
  obtain ⟨y, z, h, h1, h2⟩ := hx
  exact ⟨y, op_extract ho h rfl, h1⟩
theorem op_snd (ho : o.op = .extract x 1) (hx : (isP s t).p (a.eval x) w) : ∃ v, (∀ w, (execOp a.eval o).run P w = .ok (.value v) w) ∧ t.p v w := by
  obtain ⟨y, z, h, h1, h2⟩ := hx
  exact ⟨z, op_extract ho h rfl, h2⟩
theorem zz_fst {q r : Int} (ho : o.op = .extract x 0) (hx : (isZZ q r).p (a.eval x) w) : ∃ v, (∀ w, (execOp a.eval o).run P w = .ok (.value v) w) ∧ (isZ q).p v w := by
  obtain ⟨A, c, A', c', h, h1, h2⟩ := hx
  exact ⟨_, op_extract ho h rfl, A, c, rfl, h1⟩
theorem zz_snd {q r : Int} (ho : o.op = .extract x 1) (hx : (isZZ q r).p (a.eval x) w) : ∃ v, (∀ w, (execOp a.eval o).run P w = .ok (.value v) w) ∧ (isZ r).p v w := by
  obtain ⟨A, c, A', c', h, h1, h2⟩ := hx
  exact ⟨_, op_extract ho h rfl, A', c', rfl, h2⟩
theorem op_mv {s : SP} (ho : o.op = .move x) (hx : s.p (a.eval x) w) : ∃ v, (∀ w, (execOp a.eval o).run P w = .ok (.value v) w) ∧ s.p v w := ⟨_, op_move ho rfl, hx⟩
end
theorem got_b {P : Program} {f : Nat} {xs : Array Value} {w : World} {b b' : Bool} (h : b = b') (hc : Calls P f xs w (Got w (isV (.bool b)).p)) : Calls P f xs w (Got w (isV (.bool b')).p) := by
  subst h
  exact hc
theorem wp_b {P : Program} {Q : Exit → Act → World → Prop} {o : Oper} {a : Act} {w : World} {d : Nat} {b b' : Bool} (h : b = b') (hc : o.wp P a w (Post a w d (isV (.bool b)).p) Q) : o.wp P a w (Post a w d (isV (.bool b')).p) Q := by
  subst h
  exact hc
theorem pure_b {R : Value → Prop} {b b' : Bool} {w : World} (h : b = b') (hc : ∃ v, R v ∧ (isV (.bool b)).p v w) : ∃ v, R v ∧ (isV (.bool b')).p v w := by
  subst h
  exact hc
theorem Env.addne {w : World} {e : Ent} : ∀ {L : List Ent}, Env w L → HL w e.g e.t e.l → (∀ e' ∈ L, e'.g ≠ e.g) → Env w (L ++ [e])
  | [], _, he, _ => ⟨he, fun e' h => (by cases h), trivial⟩
  | e0 :: L, ⟨h1, h2, h3⟩, he, hl => ⟨h1, fun e' h => by
      rcases List.mem_append.1 h with h | h
      · exact h2 e' h
      · rcases List.mem_singleton.1 h with rfl
        exact Ne.symm (hl e0 (List.mem_cons_self ..)), Env.addne h3 he (fun e' h => hl e' (List.mem_cons_of_mem _ h))⟩
section
variable {w : World} {g : Nat} {t : TypeId} {c d : CP}
theorem HL.cells1 (k : HL w g t [c]) : ∃ u v, w.cell? ⟨g, 0, none⟩ = some u ∧ w.cell? ⟨g, 1, none⟩ = some v ∧ c.p u v w := by
  obtain ⟨u, v, hb, h⟩ := k.one
  exact ⟨u, v, cell_of hb rfl, cell_of hb rfl, h⟩
theorem HL.cells2 (k : HL w g t [c, d]) : ∃ u v x y, w.cell? ⟨g, 0, none⟩ = some u ∧ w.cell? ⟨g, 1, none⟩ = some v ∧ w.cell? ⟨g, 2, none⟩ = some x ∧ w.cell? ⟨g, 3, none⟩ = some y ∧ c.p u v w ∧ d.p x y w := by
  obtain ⟨u, v, x, y, hb, h, h'⟩ := k.two
  exact ⟨u, v, x, y, cell_of hb rfl, cell_of hb rfl, cell_of hb rfl, cell_of hb rfl, h, h'⟩
end
end Go.Proofs.Ytcjcpfafalkceaa
